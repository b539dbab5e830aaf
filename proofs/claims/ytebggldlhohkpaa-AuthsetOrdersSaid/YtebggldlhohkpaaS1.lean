/- Contracts of chapter 10: order of entries, find, Get, and the reference's. No condition. -/
import Derived.Test.YtebggldlhohkpaaTs
import Derived.Test.YtebggldlhohkpaaU2
namespace Go.Proofs.Ytebggldlhohkpaa
open Go Go.Abs
set_option linter.unusedSimpArgs false

theorem pureR_tup2 {a b : AV} (h : Pure a) (k : Pure b) (ha : PureR1 a) (hb : PureR1 b) : PureR (.tup [a, b]) := by
  intro r hr
  simp only [List.mem_cons, List.not_mem_nil, or_false] at hr
  rcases hr with rfl | rfl
  · exact ha
  · exact hb
theorem pureR_IB (n : Int) (b : Bool) : PureR (.tup [I n, B b]) := pureR_tup2 (pure_I _) (pure_B _) (pure_I _) (pure_B _)

set_option maxRecDepth 8000 in
set_option maxHeartbeats 4000000 in
theorem prec_ac (a b : EntD) : AC Try.prog 51 [ent a, ent b] (B (prec a b)) := by
  refine AC.of_body Try.func51 rfl rfl Try.ntmps51 (congrArg Array.toList Try.results51) (by simp) (pures2 (pure_ent _) (pure_ent _)) (pure_B _) fun w S' => AWp.of_vc [] ?_
  by_cases h1 : a.kind < b.kind
  · simp [go_sem, h1]
    refine PostR.ret ?_
    simp [go_sem, prec, h1]
  · by_cases h2 : a.kind = b.kind
    · simp [go_sem, h1, h2]
      refine PostR.ret ?_
      simp [go_sem, prec, h1, h2]
    · simp [go_sem, h1, h2]
      refine PostR.ret ?_
      simp [go_sem, prec, h1, h2]

set_option maxRecDepth 8000 in
set_option maxHeartbeats 4000000 in
theorem ahead_ac (k m : Int) (a b : Bytes) : AC Try.prog 27 [I k, S a, I m, S b] (B (prec ⟨k, a, 0⟩ ⟨m, b, 0⟩)) := by
  refine AC.of_body Try.func27 rfl rfl Try.ntmps27 (congrArg Array.toList Try.results27) (by simp) (pures4 (pure_I _) (pure_S _) (pure_I _) (pure_S _)) (pure_B _) fun w S' => AWp.of_vc [] ?_
  by_cases h1 : k < m
  · simp [go_sem, h1]
    refine PostR.ret ?_
    simp [go_sem, prec, h1]
  · by_cases h2 : k = m
    · simp [go_sem, h1, h2]
      refine PostR.ret ?_
      simp [go_sem, prec, h1, h2]
    · simp [go_sem, h1, h2]
      refine PostR.ret ?_
      simp [go_sem, prec, h1, h2]

def isSt (k : Int) : Bool := decide (1 ≤ k) && decide (k ≤ 10)


theorem pure_box (x : EntD) : Pure (.eptr (enc x) 0) := pure_eptr (pure_enc x)
set_option maxRecDepth 8000 in
set_option maxHeartbeats 4000000 in
theorem find1_ac (e x : EntD) : AC Try.prog 50 [ent e, .eptr (enc x) 0] (B (prec e x)) := by
  refine AC.of_body Try.func50 rfl rfl Try.ntmps50 (congrArg Array.toList Try.results50) (by simp) (pures2 (pure_ent _) (pure_box _)) (pure_B _) fun w S' => AWp.of_vc [] ?_
  simp [go_sem]
  refine CallSem.pure (prec_ac e x) (by simp [go_sem]) ?_
  simp [go_sem]
  refine PostR.ret ?_
  simp [go_sem]

set_option maxRecDepth 8000 in
set_option maxHeartbeats 4000000 in
theorem find2_ac (e x : EntD) : AC Try.prog 52 [ent e, .eptr (enc x) 0] (B (!prec x e)) := by
  refine AC.of_body Try.func52 rfl rfl Try.ntmps52 (congrArg Array.toList Try.results52) (by simp) (pures2 (pure_ent _) (pure_box _)) (pure_B _) fun w S' => AWp.of_vc [] ?_
  simp [go_sem]
  refine CallSem.pure (prec_ac x e) (by simp [go_sem]) ?_
  simp [go_sem]
  refine PostR.ret ?_
  simp [go_sem]

/-- The place of an entry, and whether it is there. -/
def fidx (s : List EntD) (x : EntD) : Nat := (s.takeWhile fun e => prec e x).length
def fok (s : List EntD) (x : EntD) : Bool := (s[fidx s x]?).elim false fun e => !prec x e
theorem takeWhile_len {α : Type} (p : α → Bool) : ∀ (l : List α) (k : Nat), k ≤ l.length → (∀ (j : Nat) x, j < k → l[j]? = some x → p x = true) → (∀ x, l[k]? = some x → p x = false) → (l.takeWhile p).length = k
  | [], k, hk, _, _ => by simp at hk; simp [hk]
  | x :: l, 0, _, _, h2 => by simp [List.takeWhile_cons, h2 x rfl]
  | x :: l, k + 1, hk, h1, h2 => by
    have hx := h1 0 x (by omega) rfl
    simp only [List.takeWhile_cons, hx, if_true, List.length_cons]
    rw [takeWhile_len p l k (by simpa using hk) (fun j y hj hy => h1 (j + 1) y (by omega) (by simpa using hy)) (fun y hy => h2 y (by simpa using hy))]
theorem fidx_le (s : List EntD) (x : EntD) : fidx s x ≤ s.length := by
  unfold fidx
  have h := congrArg List.length (List.takeWhile_append_dropWhile (p := fun e : EntD => prec e x) (l := s))
  simp only [List.length_append] at h
  omega
theorem fok_lt {s : List EntD} {x : EntD} (h : fok s x = true) : fidx s x < s.length := by
  unfold fok at h
  cases he : s[fidx s x]? with
  | none => rw [he] at h; cases h
  | some e => exact (List.getElem?_eq_some_iff.1 he).1
def fnAV (f : FuncId) (x : EntD) : AV := .fn (.func f) [] [.eptr (enc x) 0]
theorem pure_fnAV (f : FuncId) (x : EntD) : Pure (fnAV f x) := pure_fn (fun c h => by cases h) fun c h => by simp only [List.mem_singleton] at h; subst h; exact pure_box x
attribute [go_sem] fnAV
set_option maxRecDepth 8000 in
set_option maxHeartbeats 4000000 in
theorem placeG_ac (s : List EntD) (x : EntD) : AC Try.prog 49 [ents s, fnAV 50 x, fnAV 52 x] (.tup [I (fidx s x), B (fok s x)]) := by
  refine AC.of_body Try.func49 rfl rfl Try.ntmps49 (congrArg Array.toList Try.results49) (by simp) (pures3 (pure_ents _) (pure_fnAV _ _) (pure_fnAV _ _)) (pureR_IB _ _) fun w S' => AWp.bound 0 rfl fun hlen => AWp.of_vc [] ?_
  rw [ents_len] at hlen
  simp [go_sem]
  refine AWp.loop_vc [] (fun m s' => ∃ k : Nat, k ≤ s.length ∧ m = s.length - k ∧ s'.σ 0 = ents s ∧ s'.σ 1 = fnAV 50 x ∧ s'.σ 2 = fnAV 52 x ∧ s'.σ 8 = I k ∧ ∀ (j : Nat) e, j < k → s[j]? = some e → prec e x = true) s.length ⟨0, by simp [go_sem]⟩ ?_
  rintro m s' ⟨k, hk, rfl, h0, h1, h2, h8, hno⟩
  have fin : (∀ e, s[k]? = some e → prec e x = false) → fidx s x = k := fun h => takeWhile_len _ s k hk hno h
  by_cases hlt : k < s.length
  · simp [go_sem, h0, h1, h2, h8, hlt]
    refine CallSem.pure (find1_ac s[k] x) (by simp [go_sem]) ?_
    cases hp : prec s[k] x with
    | true =>
      simp [go_sem, h0, h1, h2, h8, hlt]
      refine ⟨s.length - (k + 1), by omega, k + 1, by omega, rfl, by rw [wrap_succ hlt hlen]; rfl, ?_⟩
      intro j e hj he
      rcases Nat.lt_succ_iff_lt_or_eq.1 hj with hj | rfl
      · exact hno j e hj he
      · rw [List.getElem?_eq_getElem hlt] at he; cases he; exact hp
    | false =>
      have hf : fidx s x = k := fin fun e he => by rw [List.getElem?_eq_getElem hlt] at he; cases he; exact hp
      simp [go_sem, h0, h1, h2, h8, hlt]
      refine CallSem.pure (find2_ac s[k] x) (by simp [go_sem]) ?_
      simp [go_sem, h0, h1, h2, h8, hlt]
      refine PostR.ret ?_
      simp [go_sem, hf, fok, hlt]
  · have hf : fidx s x = k := fin fun e he => by rw [List.getElem?_eq_none (by omega)] at he; cases he
    have hk' : k = s.length := by omega
    simp [go_sem, h0, h1, h2, h8, hlt]
    refine PostR.ret ?_
    simp [go_sem, hf, fok, hk']

set_option maxRecDepth 8000 in
set_option maxHeartbeats 4000000 in
theorem find_ac (s : List EntD) (k : Int) (key : Bytes) : AC Try.prog 41 [ents s, I k, S key] (.tup [I (fidx s ⟨k, key, 0⟩), B (fok s ⟨k, key, 0⟩)]) := by
  refine AC.of_body Try.func41 rfl rfl Try.ntmps41 (congrArg Array.toList Try.results41) (by simp) (pures3 (pure_ents _) (pure_I _) (pure_S _)) (pureR_IB _ _) fun w S' => AWp.of_vc [] ?_
  simp [go_sem]
  refine CallSem.freeze 8 ?_
  simp [go_sem]
  refine CallSem.pure (placeG_ac s ⟨k, key, 0⟩) (by simp [go_sem]) ?_
  simp [go_sem]
  refine PostR.ret ?_
  simp [go_sem]

def getOf (s : List EntD) (k : Int) (key : Bytes) : Option Int := if fok s ⟨k, key, 0⟩ = true then (s[fidx s ⟨k, key, 0⟩]?).map (·.id) else none
def optAV (o : Option Int) : AV := .tup [I (o.getD 0), B o.isSome]
theorem pureR_opt (o : Option Int) : PureR (optAV o) := pureR_IB _ _
attribute [go_sem] optAV

def isKey (k : Int) (key : Bytes) (e : EntD) : Bool := e.kind == k && e.key == key
theorem isKey_iff {k : Int} {key : Bytes} {e : EntD} : isKey k key e = true ↔ e.kind = k ∧ e.key = key := by simp [isKey]
def rgetOf (s : List EntD) (k : Int) (key : Bytes) : Option Int := (s.find? (isKey k key)).map (·.id)

end Go.Proofs.Ytebggldlhohkpaa
