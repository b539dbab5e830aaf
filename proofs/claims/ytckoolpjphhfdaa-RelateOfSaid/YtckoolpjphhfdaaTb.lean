/- Small lemmas for the walks: bounds, purity, texts. No condition. -/
import Derived.Test.YtckoolpjphhfdaaTa
import Derived.Laws.Strings
namespace Go.Abs
open Go Go.RowKit

theorem AWp.freezes {G : Ctx} {c : Code} {Q : Exit → St → Prop} : ∀ (ids : List Nat) (st : St), AWp G c Q (st.freezes ids) → AWp G c Q st
  | [], _, h => h
  | i :: l, st, h => AWp.freeze i (AWp.freezes l (st.freeze i) h)
/-- A loop at whose rounds' ends some blocks are written no more. -/
theorem AWp.loop_vcF {G : Ctx} (own ids : List Nat) {c : Code} {Q : Exit → St → Prop} {st : St} (I : Nat → St → Prop) (n₀ : Nat) (h₀ : I n₀ (st.freezes ids))
    (round : ∀ n s, I n s → vcCode G own c (thenA (fun s' => ∃ n', n' < n ∧ I n' (s'.freezes ids)) Q) s) : AWp G (.loop c) Q st :=
  AWp.loop (fun n s => I n (s.freezes ids)) n₀ h₀ fun n s h => AWp.freezes ids s (AWp.of_vc own (round n (s.freezes ids) h))
theorem pures0 : ∀ p ∈ ([] : List AV), Pure p := fun _ h => by cases h
theorem pures1 {a : AV} (h : Pure a) : ∀ p ∈ [a], Pure p := fun p hp => by simp only [List.mem_singleton] at hp; subst hp; exact h
theorem pures_cons {a : AV} {l : List AV} (h : Pure a) (hl : ∀ p ∈ l, Pure p) : ∀ p ∈ a :: l, Pure p := fun p hp => by
  rcases List.mem_cons.1 hp with rfl | hp
  · exact h
  · exact hl p hp
theorem pures2 {a b : AV} (h : Pure a) (h' : Pure b) : ∀ p ∈ [a, b], Pure p := pures_cons h (pures1 h')
theorem pures3 {a b c : AV} (h : Pure a) (h' : Pure b) (h'' : Pure c) : ∀ p ∈ [a, b, c], Pure p := pures_cons h (pures2 h' h'')
theorem pures4 {a b c d : AV} (h : Pure a) (h' : Pure b) (h'' : Pure c) (h3 : Pure d) : ∀ p ∈ [a, b, c, d], Pure p := pures_cons h (pures3 h' h'' h3)
theorem pures5 {a b c d e : AV} (h : Pure a) (h' : Pure b) (h'' : Pure c) (h3 : Pure d) (h4 : Pure e) : ∀ p ∈ [a, b, c, d, e], Pure p := pures_cons h (pures4 h' h'' h3 h4)
theorem pureR_ints (l : List Int) : PureR (ints l) := pure_ints l
theorem pureR_strs (l : List Bytes) : PureR (strs l) := pure_strs l

theorem pureR_fresh_ints (e : Nat) (l : List Int) : PureR (.fresh e 1 (l.map I)) := by
  intro x hx c hc
  obtain ⟨n, _, rfl⟩ := List.mem_map.1 hx
  simp only [I, AV.cells, List.mem_singleton] at hc
  subst hc; exact pure_v _
theorem wrap_i64 {n : Int} (h1 : -9223372036854775808 ≤ n) (h2 : n ≤ 9223372036854775807) : IntKind.i64.wrap n = n := IntWalk.i64_in n ⟨h1, h2⟩
theorem wrap_succ {k m : Nat} (h : k < m) (hm : m ≤ maxLen) : IntKind.i64.wrap ((k : Int) + 1) = (k : Int) + 1 := wrap_i64 (by omega) (by unfold maxLen at hm; omega)
theorem wrap_pred {k : Nat} (hm : k ≤ maxLen) : IntKind.i64.wrap ((k : Int) - 1) = (k : Int) - 1 := wrap_i64 (by omega) (by unfold maxLen at hm; omega)

theorem ints_len (l : List Int) : (l.map I).length = l.length := by simp
theorem get_map {α β : Type} (f : α → β) (l : List α) (k : Nat) (h : k < l.length) : (l.map f)[k]? = some (f l[k]) := by simp [h]

theorem toList_mk (l : List UInt8) : ByteArray.toList ⟨l.toArray⟩ = l := by rw [ByteArray.toList_eq]
theorem append_mk (a b : List UInt8) : (⟨a.toArray⟩ : ByteArray) ++ ⟨b.toArray⟩ = ⟨(a ++ b).toArray⟩ := by
  rw [ByteArray.mk_append_mk]
theorem size_mk (a : List UInt8) : (⟨a.toArray⟩ : ByteArray).size = a.length := by
  show a.toArray.size = _
  simp
attribute [go_sem] toList_mk append_mk size_mk

/-- The first place where p holds, or -1. -/
def idxI {α : Type} (p : α → Bool) (l : List α) : Int :=
  match l.findIdx? p with
  | some i => i
  | none => -1
theorem idxI_hit {α : Type} {p : α → Bool} {l : List α} {k : Nat} (hk : k < l.length) (hp : p l[k] = true) (hno : ∀ j x, j < k → l[j]? = some x → p x = false) : idxI p l = k := by
  have : l.findIdx? p = some k := by
    rw [List.findIdx?_eq_some_iff_getElem]
    refine ⟨hk, hp, fun j hj => ?_⟩
    have := hno j l[j] hj (List.getElem?_eq_getElem (by omega))
    simp [this]
  simp [idxI, this]
theorem idxI_miss {α : Type} {p : α → Bool} {l : List α} (hno : ∀ (j : Nat) x, l[j]? = some x → p x = false) : idxI p l = -1 := by
  have : l.findIdx? p = none := by
    rw [List.findIdx?_eq_none_iff]
    intro x hx
    obtain ⟨j, hj⟩ := List.mem_iff_getElem?.1 hx
    exact hno j x hj
  simp [idxI, this]
theorem idxI_nonneg {α : Type} (p : α → Bool) (l : List α) : decide (0 ≤ idxI p l) = l.any p := by
  unfold idxI
  cases h : l.findIdx? p with
  | none =>
    rw [List.findIdx?_eq_none_iff] at h
    have : l.any p = false := by simpa using h
    simp [this]
  | some i =>
    rw [List.findIdx?_eq_some_iff_getElem] at h
    obtain ⟨h1, h2, _⟩ := h
    have : l.any p = true := List.any_eq_true.2 ⟨l[i], List.getElem_mem _, h2⟩
    rw [this]
    simp
end Go.Abs
