/- Several texts of the proof in one: Tb, Fv, Fx, Fp, Ts, E1, U1, U2, U3, Fs, Fw. No condition. -/
import Derived.Test.YtckoolpjphhfdaaKc
import Derived.Laws.Strings
import Derived.Test.YtckoolpjphhfdaaKb
import Derived.Shelf.Sort.Plain
import Derived.Shelf.Slices.In.SortNone
import Derived.Shelf.Slices.CompactI
import Derived.Shelf.SlSortCmp.WholeK
import Derived.Shelf.SlSortCmp.NoneTotal
set_option linter.unusedSimpArgs false
set_option linter.unusedVariables false
-- part Tb
namespace Go.Abs
open Go Go.RowKit

theorem AWp.freezes {G : Ctx} {c : Code} {Q : Exit → St → Prop} : ∀ (ids : List Nat) (st : St), AWp G c Q (st.freezes ids) → AWp G c Q st
  | [], _, h => h
  | i :: l, st, h => AWp.freeze i (AWp.freezes l (st.freeze i) h)
/-- A loop at whose rounds' ends some blocks are written no more. -/
theorem AWp.loop_vcF {G : Ctx} (own ids : List Nat) {c : Code} {Q : Exit → St → Prop} {st : St} (I : Nat → St → Prop) (n₀ : Nat) (h₀ : I n₀ (st.freezes ids))
    (round : ∀ n s, I n s → vcCode G own c (thenA (fun s' => ∃ n', n' < n ∧ I n' (s'.freezes ids)) Q) s) : AWp G (.loop c) Q st :=
  AWp.loop (fun n s => I n (s.freezes ids)) n₀ h₀ fun n s h => AWp.freezes ids s (AWp.of_vc own (round n (s.freezes ids) h))
theorem pures0 : ∀ p ∈ ([] : List AV), Pure p := fun _ h => by cases h
theorem pures1 {a : AV} (h : Pure a) : ∀ p ∈ [a], Pure p := fun p hp => by simp only [List.mem_singleton] at hp; subst hp; exact h
theorem pures_cons {a : AV} {l : List AV} (h : Pure a) (hl : ∀ p ∈ l, Pure p) : ∀ p ∈ a :: l, Pure p := fun p hp => by
  rcases List.mem_cons.1 hp with rfl | hp
  · exact h
  · exact hl p hp
theorem pures2 {a b : AV} (h : Pure a) (h' : Pure b) : ∀ p ∈ [a, b], Pure p := pures_cons h (pures1 h')
theorem pures3 {a b c : AV} (h : Pure a) (h' : Pure b) (h'' : Pure c) : ∀ p ∈ [a, b, c], Pure p := pures_cons h (pures2 h' h'')
theorem pures4 {a b c d : AV} (h : Pure a) (h' : Pure b) (h'' : Pure c) (h3 : Pure d) : ∀ p ∈ [a, b, c, d], Pure p := pures_cons h (pures3 h' h'' h3)
theorem pures5 {a b c d e : AV} (h : Pure a) (h' : Pure b) (h'' : Pure c) (h3 : Pure d) (h4 : Pure e) : ∀ p ∈ [a, b, c, d, e], Pure p := pures_cons h (pures4 h' h'' h3 h4)
theorem pureR_ints (l : List Int) : PureR (ints l) := pure_ints l
theorem pureR_strs (l : List Bytes) : PureR (strs l) := pure_strs l

theorem pureR_fresh_ints (e : Nat) (l : List Int) : PureR (.fresh e 1 (l.map I)) := by
  intro x hx c hc
  obtain ⟨n, _, rfl⟩ := List.mem_map.1 hx
  simp only [I, AV.cells, List.mem_singleton] at hc
  subst hc; exact pure_v _
theorem wrap_i64 {n : Int} (h1 : -9223372036854775808 ≤ n) (h2 : n ≤ 9223372036854775807) : IntKind.i64.wrap n = n := IntWalk.i64_in n ⟨h1, h2⟩
theorem wrap_succ {k m : Nat} (h : k < m) (hm : m ≤ maxLen) : IntKind.i64.wrap ((k : Int) + 1) = (k : Int) + 1 := wrap_i64 (by omega) (by unfold maxLen at hm; omega)
theorem wrap_pred {k : Nat} (hm : k ≤ maxLen) : IntKind.i64.wrap ((k : Int) - 1) = (k : Int) - 1 := wrap_i64 (by omega) (by unfold maxLen at hm; omega)

theorem ints_len (l : List Int) : (l.map I).length = l.length := by simp
theorem get_map {α β : Type} (f : α → β) (l : List α) (k : Nat) (h : k < l.length) : (l.map f)[k]? = some (f l[k]) := by simp [h]

theorem toList_mk (l : List UInt8) : ByteArray.toList ⟨l.toArray⟩ = l := by rw [ByteArray.toList_eq]
theorem append_mk (a b : List UInt8) : (⟨a.toArray⟩ : ByteArray) ++ ⟨b.toArray⟩ = ⟨(a ++ b).toArray⟩ := by
  rw [ByteArray.mk_append_mk]
theorem size_mk (a : List UInt8) : (⟨a.toArray⟩ : ByteArray).size = a.length := by
  show a.toArray.size = _
  simp
attribute [go_sem] toList_mk append_mk size_mk

/-- The first place where p holds, or -1. -/
def idxI {α : Type} (p : α → Bool) (l : List α) : Int :=
  match l.findIdx? p with
  | some i => i
  | none => -1
theorem idxI_hit {α : Type} {p : α → Bool} {l : List α} {k : Nat} (hk : k < l.length) (hp : p l[k] = true) (hno : ∀ j x, j < k → l[j]? = some x → p x = false) : idxI p l = k := by
  have : l.findIdx? p = some k := by
    rw [List.findIdx?_eq_some_iff_getElem]
    refine ⟨hk, hp, fun j hj => ?_⟩
    have := hno j l[j] hj (List.getElem?_eq_getElem (by omega))
    simp [this]
  simp [idxI, this]
theorem idxI_miss {α : Type} {p : α → Bool} {l : List α} (hno : ∀ (j : Nat) x, l[j]? = some x → p x = false) : idxI p l = -1 := by
  have : l.findIdx? p = none := by
    rw [List.findIdx?_eq_none_iff]
    intro x hx
    obtain ⟨j, hj⟩ := List.mem_iff_getElem?.1 hx
    exact hno j x hj
  simp [idxI, this]
theorem idxI_nonneg {α : Type} (p : α → Bool) (l : List α) : decide (0 ≤ idxI p l) = l.any p := by
  unfold idxI
  cases h : l.findIdx? p with
  | none =>
    rw [List.findIdx?_eq_none_iff] at h
    have : l.any p = false := by simpa using h
    simp [this]
  | some i =>
    rw [List.findIdx?_eq_some_iff_getElem] at h
    obtain ⟨h1, h2, _⟩ := h
    have : l.any p = true := List.any_eq_true.2 ⟨l[i], List.getElem_mem _, h2⟩
    rw [this]
    simp
end Go.Abs

-- part Fv
namespace Go.Abs
open Go Go.RowKit
section
variable {P : Program} {b : Frame} {a : Act} {k : List Item} {cs : List Frame} {w : World}
theorem stepR_scope {c : Code} : step P (lone (b.atR a (.code (.scope c) :: k)) cs w) = .next (lone (b.atR a (.code c :: .inScope c :: k)) cs w) :=
  step_lone_go (by simp [stepG, stepG.exec, Frame.atR])
theorem stepR_inScope {c : Code} : step P (lone (b.atR a (.inScope c :: k)) cs w) = .next (lone (b.atR a k) cs w) :=
  step_lone_go (by simp [stepG, stepG.exec, Frame.atR])
end
def noGotoE (Q : Exit → Act → World → Prop) : Exit → Act → World → Prop
  | .goto _, _, _ => False
  | e, a, w => Q e a w
theorem wpIn_scope {F : Fence} {n : Nat} {P : Program} {Q : Exit → Act → World → Prop} {a : Act} {w : World} {c : Code} (h : c.wpIn F n P (noGotoE Q) a w) : (Code.scope c).wpIn F n P Q a w := by
  intro b k cs hro hb hr
  have h0 : (lone (b.atR a (.code (.scope c) :: k)) cs w).fenced P F := fenced_calm hb hr rfl
  obtain ⟨e, a₁, w₁, hq, harr⟩ := h b (.inScope c :: k) cs hro hb hr
  cases e with
  | normal => exact ⟨.normal, a₁, w₁, hq, .head h0 stepR_scope (StepsIn.trans harr (.one (fenced_calm hb hr rfl) stepR_inScope))⟩
  | exit id =>
    have hx : exitTo id (.inScope c :: k) = exitTo id k := by simp [exitTo]
    exact ⟨.exit id, a₁, w₁, hq, fun k' hk => .head h0 stepR_scope (harr.1 k' (by rw [hx]; exact hk)),
      fun hr' hk => let ⟨k₁, h1, h2⟩ := harr.2 hr' (by rw [hx]; exact hk); ⟨k₁, h1, .head h0 stepR_scope h2⟩⟩
  | goto l => exact hq.elim
  | ret => exact ⟨_, a₁, w₁, hq, .of_steps (.one h0 stepR_scope) harr⟩
  | panic ch => exact ⟨_, a₁, w₁, hq, .of_steps (.one h0 stepR_scope) harr⟩
  | outgrown => exact ⟨_, a₁, w₁, hq, .of_steps (.one h0 stepR_scope) harr⟩
def noGotoA (Q : Exit → St → Prop) : Exit → St → Prop
  | .goto _, _ => False
  | e, s => Q e s
section
variable {G : Ctx} {Q : Exit → St → Prop} {st : St} {own : List Nat}
theorem AWp.scope {c : Code} (h : AWp G c (noGotoA Q) st) : AWp G (.scope c) Q st := fun E a hr =>
  wpIn_scope (wpIn_mono (h E a hr) fun e a' w' ⟨st', E', h1, h2, h3⟩ => by
    cases e with
    | goto l => exact h3.elim
    | _ => exact ⟨st', E', h1, h2, h3⟩)
theorem AWp.scope_vc (own : List Nat) {c : Code} (h : vcCode G own c (noGotoA Q) st) : AWp G (.scope c) Q st := .scope (.of_vc own h)
@[congr] theorem noGotoA_congr {e : Exit} {st st' : St} (h : st = st') : noGotoA Q e st = noGotoA Q e st' := by rw [h]
theorem w_scope (c : Code) : vcCode G own (.scope c) Q st = AWp G (.scope c) Q st := nrfl _
theorem w_ng_normal : noGotoA Q .normal st = Q .normal st := nrfl _
theorem w_ng_ret : noGotoA Q .ret st = Q .ret st := nrfl _
theorem w_ng_exit (id : Nat) : noGotoA Q (.exit id) st = Q (.exit id) st := nrfl _
end
attribute [go_sem] w_scope w_ng_normal w_ng_ret w_ng_exit
end Go.Abs

-- part Fx
namespace Go.Abs
open Go Go.RowKit
theorem nodup_lenG {α : Type} [BEq α] [LawfulBEq α] : ∀ {a b : List α}, a.Nodup → (∀ x ∈ a, x ∈ b) → a.length ≤ b.length
  | [], b, _, _ => Nat.zero_le _
  | x :: a, b, h, hs => by
    rw [List.nodup_cons] at h
    have hx := hs x (List.mem_cons_self ..)
    have ih := nodup_lenG (a := a) (b := b.erase x) h.2 fun y hy => (List.mem_erase_of_ne fun he => h.1 (by rw [← he]; exact hy)).2 (hs y (List.mem_cons_of_mem _ hy))
    rw [List.length_erase_of_mem hx] at ih
    have : 0 < b.length := List.length_pos_of_mem hx
    simp only [List.length_cons]; omega
theorem mapOK_nil : mapOK #[] 0 := ⟨fun x h => by simp at h, List.nodup_nil⟩
theorem modify_toList (es : Array MapEntry) (j : Nat) (f : MapEntry → MapEntry) : (es.modify j f).toList = es.toList.modify j f := Array.toList_modify ..
theorem map_modify_same {α : Type} (g : MapEntry → α) (f : MapEntry → MapEntry) : ∀ (l : List MapEntry) (j : Nat), (∀ e, l[j]? = some e → g (f e) = g e) → (l.modify j f).map g = l.map g
  | [], j, _ => by cases j <;> simp
  | e :: l, 0, h => by simp [h e rfl]
  | e :: l, j + 1, h => by simp [map_modify_same g f l j (fun x hx => h x (by simpa using hx))]
theorem mapOK_mput {es : Array MapEntry} {clk : Nat} (h : mapOK es clk) (n : Int) (v : Value) : mapOK (mput es clk n v).1 (mput es clk n v).2 := by
  unfold mput
  cases hf : findI n es.toList 0 with
  | some x =>
    have hb : (es.modify x.1 fun e => { e with key := .int .i64 n, val := v }).toList.map (·.born) = es.toList.map (·.born) := by
      rw [modify_toList]
      exact map_modify_same (·.born) _ _ _ fun e _ => rfl
    refine ⟨fun y hy => ?_, by rw [hb]; exact h.2⟩
    have : y.born ∈ es.toList.map (·.born) := by rw [← hb]; exact List.mem_map.2 ⟨y, hy, rfl⟩
    obtain ⟨z, hz, hzb⟩ := List.mem_map.1 this
    have := h.1 z hz
    show y.born < clk
    omega
  | none =>
    refine ⟨fun y hy => ?_, ?_⟩
    · simp only [Array.toList_push, List.mem_append, List.mem_singleton] at hy
      rcases hy with hy | rfl
      · have := h.1 y hy; show y.born < clk + 1; omega
      · exact Nat.lt_succ_self _
    · simp only [Array.toList_push, List.map_append, List.map_cons, List.map_nil]
      rw [List.nodup_append]
      refine ⟨h.2, by simp, fun a ha b hb => ?_⟩
      simp only [List.mem_singleton] at hb
      obtain ⟨z, hz, rfl⟩ := List.mem_map.1 ha
      have := h.1 z hz
      omega
/-- No number is a key twice. -/
def keysOK (es : Array MapEntry) : Prop := (es.toList.map keyI).Nodup
theorem keysOK_nil : keysOK #[] := List.nodup_nil
theorem keyInt_key {e : MapEntry} (h : keyInt e = true) : e.key = .int .i64 (keyI e) := by
  unfold keyInt at h
  split at h
  · rename_i a ha; unfold keyI; rw [ha]
  · cases h
theorem keyIs_iff {n : Int} {e : MapEntry} (h : keyInt e = true) : keyIs n e = true ↔ keyI e = n := by
  unfold keyIs
  rw [keyInt_key h]
  simp only [beq_iff_eq]
  exact eq_comm
theorem keysOK_mput {es : Array MapEntry} {clk : Nat} (hi : intM es = true) (h : keysOK es) (n : Int) (v : Value) : keysOK (mput es clk n v).1 := by
  unfold mput
  unfold intM at hi
  rw [List.all_eq_true] at hi
  cases hf : findI n es.toList 0 with
  | some x =>
    obtain ⟨j, e, rfl, h1, h2, h3⟩ := findI_some n _ _ _ hf
    unfold keysOK
    show ((es.modify (0 + j) fun e => { e with key := .int .i64 n, val := v }).toList.map keyI).Nodup
    rw [modify_toList, map_modify_same keyI _ _ _ fun e' he' => ?_]
    · exact h
    · rw [Nat.zero_add, h1] at he'
      cases he'
      have := (keyIs_iff (hi e (List.mem_of_getElem? h1))).1 h2
      simp [keyI] at this ⊢
      exact this.symm
  | none =>
    have hno := (findI_none n _ 0).1 hf
    unfold keysOK
    simp only [Array.toList_push, List.map_append, List.map_cons, List.map_nil]
    rw [List.nodup_append]
    refine ⟨h, by simp, fun a ha b hb => ?_⟩
    simp only [List.mem_singleton] at hb
    obtain ⟨z, hz, rfl⟩ := List.mem_map.1 ha
    have h1 := hno z hz
    intro he
    rw [hb] at he
    have := (keyIs_iff (hi z hz)).2 (show keyI z = n from by simpa [keyI] using he)
    rw [this] at h1; cases h1
theorem mget_of {es : Array MapEntry} (hi : intM es = true) (hk : keysOK es) {e : MapEntry} (he : e ∈ es.toList) : mget es (keyI e) = some e.val := by
  unfold intM at hi
  rw [List.all_eq_true] at hi
  rw [mget_eq]
  have hp : keyIs (keyI e) e = true := (keyIs_iff (hi e he)).2 rfl
  cases hf : es.toList.find? (keyIs (keyI e)) with
  | none =>
    rw [List.find?_eq_none] at hf
    exact absurd hp (hf e he)
  | some x =>
    have hx := List.mem_of_find?_eq_some hf
    have hxk := (keyIs_iff (hi x hx)).1 (List.find?_some hf)
    have : x = e := by
      obtain ⟨i, hi', rfl⟩ := List.mem_iff_getElem.1 hx
      obtain ⟨j, hj, rfl⟩ := List.mem_iff_getElem.1 he
      have h1 : (es.toList.map keyI)[i]'(by simpa using hi') = (es.toList.map keyI)[j]'(by simpa using hj) := by simpa using hxk
      have := (List.getElem_inj hk).1 h1
      subst this; rfl
    subst this; rfl
theorem mget_mem {es : Array MapEntry} (hi : intM es = true) {n : Int} {v : Value} (h : mget es n = some v) : ∃ e ∈ es.toList, keyI e = n ∧ e.val = v := by
  unfold intM at hi
  rw [List.all_eq_true] at hi
  rw [mget_eq] at h
  cases hf : es.toList.find? (keyIs n) with
  | none => rw [hf] at h; cases h
  | some x =>
    rw [hf] at h
    have hx := List.mem_of_find?_eq_some hf
    exact ⟨x, hx, (keyIs_iff (hi x hx)).1 (List.find?_some hf), by simpa using h⟩
theorem intM_key {es : Array MapEntry} (hi : intM es = true) {e : MapEntry} (he : e ∈ es.toList) : e.key = .int .i64 (keyI e) := by
  unfold intM at hi
  rw [List.all_eq_true] at hi
  exact keyInt_key (hi e he)
/-- What a range over a map has seen: each entry once. -/
structure Seen (es : Array MapEntry) (done : List MapEntry) : Prop where
  nd : (done.map (·.born)).Nodup
  mem : ∀ x ∈ done, x ∈ es.toList
theorem Seen.nil (es : Array MapEntry) : Seen es [] := ⟨List.nodup_nil, fun _ h => by cases h⟩
theorem Seen.snoc {es : Array MapEntry} {done : List MapEntry} (h : Seen es done) {e : MapEntry} (he : e ∈ es.toList) (hn : e.born ∉ done.map (·.born)) : Seen es (done ++ [e]) := by
  refine ⟨?_, fun x hx => ?_⟩
  · rw [List.map_append, List.nodup_append]
    refine ⟨h.nd, by simp, fun a ha b hb => ?_⟩
    simp only [List.map_cons, List.map_nil, List.mem_singleton] at hb
    subst hb; exact fun he => hn (he ▸ ha)
  · rcases List.mem_append.1 hx with hx | hx
    · exact h.mem x hx
    · simp only [List.mem_singleton] at hx; subst hx; exact he
theorem Seen.len {es : Array MapEntry} {done : List MapEntry} (h : Seen es done) : done.length ≤ es.size := by
  have := nodup_lenG h.nd (b := es.toList.map (·.born)) fun b hb => by
    obtain ⟨x, hx, rfl⟩ := List.mem_map.1 hb
    exact List.mem_map.2 ⟨x, h.mem x hx, rfl⟩
  simpa using this
theorem Seen.all {es : Array MapEntry} {clk : Nat} {done : List MapEntry} (hok : mapOK es clk) (h : Seen es done) (hall : ∀ e ∈ es.toList, e.born ∈ done.map (·.born)) : ∀ e, e ∈ done ↔ e ∈ es.toList := fun e => by
  refine ⟨h.mem e, fun he => ?_⟩
  obtain ⟨x, hx, hxb⟩ := List.mem_map.1 (hall e he)
  have hxe := h.mem x hx
  have : x = e := by
    obtain ⟨i, hi', rfl⟩ := List.mem_iff_getElem.1 hxe
    obtain ⟨j, hj, rfl⟩ := List.mem_iff_getElem.1 he
    have h1 : (es.toList.map (·.born))[i]'(by simpa using hi') = (es.toList.map (·.born))[j]'(by simpa using hj) := by simpa using hxb
    have := (List.getElem_inj hok.2).1 h1
    subst this; rfl
  subst this; exact hx
theorem Seen.keys {es : Array MapEntry} {done : List MapEntry} (h : Seen es done) (hk : keysOK es) : (done.map keyI).Nodup := by
  have hb := h.nd
  unfold List.Nodup at hb ⊢
  rw [List.pairwise_map] at hb ⊢
  refine List.Pairwise.imp_of_mem (fun {a b} ha hb' hab he => hab ?_) hb
  obtain ⟨i, hi', rfl⟩ := List.mem_iff_getElem.1 (h.mem a ha)
  obtain ⟨j, hj, rfl⟩ := List.mem_iff_getElem.1 (h.mem b hb')
  have h1 : (es.toList.map keyI)[i]'(by simpa using hi') = (es.toList.map keyI)[j]'(by simpa using hj) := by simpa using he
  have := (List.getElem_inj hk).1 h1
  subst this; rfl
end Go.Abs

-- part Fp
namespace Go.Abs
open Go Go.RowKit
set_option linter.unusedSimpArgs false
set_option linter.unusedVariables false
theorem bytes_beq_self (a : ByteArray) : (a.toList == a.toList) = true := by simp
theorem is_self (k : KeyQ) : k.is k.val = true := by
  cases k with
  | txt s => exact bytes_beq_self s
  | two a b => show ((a.toList == a.toList) && (b.toList == b.toList)) = true; simp
theorem val_inj {k k' : KeyQ} (h : k.val = k'.val) : k = k' := by
  cases k <;> cases k' <;> simp [KeyQ.val] at h
  · rw [h]
  · rw [h.1, h.2]
theorem is_iff (k k' : KeyQ) : k.is k'.val = true ↔ k' = k := ⟨fun h => val_inj (is_key h), fun h => by rw [h]; exact is_self k⟩
theorem qget_eq (es : Array MapEntry) (k : KeyQ) : qget es k = (es.toList.find? fun e => k.is e.key).map (·.val) := by
  unfold qget
  have : ∀ (l : List MapEntry) (i : Nat), (findQ k l i).map (·.2) = (l.find? fun e => k.is e.key).map (·.val) := by
    intro l
    induction l with
    | nil => intro i; rfl
    | cons e l ih =>
      intro i
      unfold findQ
      rw [List.find?_cons]
      cases hk : k.is e.key with
      | true => rfl
      | false => simpa using ih (i + 1)
  exact this _ _
theorem qput_list (es : Array MapEntry) (clk : Nat) (k : KeyQ) (v : Value) :
    (∃ j e, es.toList[j]? = some e ∧ e.key = k.val ∧ (∀ i e', i < j → es.toList[i]? = some e' → k.is e'.key = false) ∧ (qput es clk k v).1.toList = es.toList.set j { e with key := k.val, val := v } ∧ (qput es clk k v).2 = clk) ∨
    ((∀ e ∈ es.toList, k.is e.key = false) ∧ (qput es clk k v).1.toList = es.toList ++ [{ key := k.val, val := v, born := clk }] ∧ (qput es clk k v).2 = clk + 1) := by
  unfold qput
  cases hf : findQ k es.toList 0 with
  | some x =>
    obtain ⟨j, e, rfl, h1, h2, h3⟩ := findQ_some k _ _ _ hf
    refine .inl ⟨j, e, h1, is_key h2, h3, ?_, rfl⟩
    show (es.modify (0 + j) fun e => { e with key := k.val, val := v }).toList = _
    rw [modify_toList, Nat.zero_add]
    apply List.ext_getElem?
    intro i
    rw [List.getElem?_modify, List.getElem?_set]
    by_cases hi : j = i
    · subst hi
      rw [if_pos rfl]
      have hj : j < es.toList.length := (List.getElem?_eq_some_iff.1 h1).1
      rw [h1]
      simp only [if_pos hj, Option.map_some]
      rfl
    · simp [hi]
  | none =>
    have hno := (findQ_none k _ 0).1 hf
    exact .inr ⟨hno, by show (es.push _).toList = _; rw [Array.toList_push], rfl⟩
theorem qput_same (es : Array MapEntry) (clk : Nat) (k : KeyQ) (v : Value) : qget (qput es clk k v).1 k = some v := by
  rw [qget_eq]
  rcases qput_list es clk k v with ⟨j, e, h1, h2, h3, h4, _⟩ | ⟨h1, h2, _⟩
  · rw [h4]
    have hj : j < es.toList.length := (List.getElem?_eq_some_iff.1 h1).1
    have : (es.toList.set j { e with key := k.val, val := v }).find? (fun e => k.is e.key) = some { e with key := k.val, val := v } := by
      rw [List.find?_eq_some_iff_getElem]
      refine ⟨is_self k, j, by rw [List.length_set]; exact hj, by rw [List.getElem_set_self], fun i hi => ?_⟩
      rw [List.getElem_set_ne (by omega)]
      have := h3 i _ hi (List.getElem?_eq_getElem (by omega))
      rw [this]; rfl
    rw [this]; rfl
  · rw [h2, List.find?_append, List.find?_eq_none.2 (fun x hx => by rw [h1 x hx]; simp)]
    simp [is_self]
theorem qput_other (es : Array MapEntry) (clk : Nat) {k k' : KeyQ} (v : Value) (hne : k' ≠ k) : qget (qput es clk k v).1 k' = qget es k' := by
  have hk : k'.is k.val = false := by
    cases h : k'.is k.val with
    | false => rfl
    | true => exact absurd ((is_iff _ _).1 h).symm hne
  rw [qget_eq, qget_eq]
  rcases qput_list es clk k v with ⟨j, e, h1, h2, h3, h4, _⟩ | ⟨h1, h2, _⟩
  · rw [h4]
    have he : k'.is e.key = false := by rw [h2]; exact hk
    have : ∀ (l : List MapEntry) (j : Nat), l[j]? = some e → (l.set j { e with key := k.val, val := v }).find? (fun e => k'.is e.key) = l.find? (fun e => k'.is e.key) := by
      intro l
      induction l with
      | nil => intro j h; simp at h
      | cons x l ih =>
        intro j h
        cases j with
        | zero => simp at h; subst h; simp [List.find?_cons, hk, he]
        | succ j => simp only [List.set_cons_succ, List.find?_cons]; rw [ih j (by simpa using h)]
    rw [this _ _ h1]
  · rw [h2, List.find?_append]
    simp [hk]
/-- Every key is a text. -/
def txM (es : Array MapEntry) : Prop := ∀ e ∈ es.toList, ∃ s, e.key = .string s
def twM (es : Array MapEntry) : Prop := ∀ e ∈ es.toList, ∃ a b, e.key = .agg #[.string a, .string b]
theorem txM_nil : txM #[] := fun e he => by simp at he
theorem twM_nil : twM #[] := fun e he => by simp at he
theorem txM_qM {es : Array MapEntry} (h : txM es) (s : ByteArray) : qM es (.txt s) = true := by
  unfold qM
  rw [List.all_eq_true]
  intro e he
  obtain ⟨x, hx⟩ := h e he
  rw [hx]; rfl
theorem twM_qM {es : Array MapEntry} (h : twM es) (a b : ByteArray) : qM es (.two a b) = true := by
  unfold qM
  rw [List.all_eq_true]
  intro e he
  obtain ⟨x, y, hx⟩ := h e he
  rw [hx]; rfl
theorem mem_qput {es : Array MapEntry} {clk : Nat} {k : KeyQ} {v : Value} {e : MapEntry} (h : e ∈ (qput es clk k v).1.toList) : e ∈ es.toList ∨ (e.key = k.val ∧ e.val = v) := by
  rcases qput_list es clk k v with ⟨j, x, h1, h2, h3, h4, _⟩ | ⟨h1, h2, _⟩
  · rw [h4] at h
    rcases List.mem_or_eq_of_mem_set h with h | rfl
    · exact .inl h
    · exact .inr ⟨rfl, rfl⟩
  · rw [h2] at h
    rcases List.mem_append.1 h with h | h
    · exact .inl h
    · rw [List.mem_singleton] at h; subst h; exact .inr ⟨rfl, rfl⟩
theorem txM_qput {es : Array MapEntry} (h : txM es) (clk : Nat) (s : ByteArray) (v : Value) : txM (qput es clk (.txt s) v).1 := fun e he => (mem_qput he).elim (h e) fun h => ⟨s, h.1⟩
theorem twM_qput {es : Array MapEntry} (h : twM es) (clk : Nat) (a b : ByteArray) (v : Value) : twM (qput es clk (.two a b) v).1 := fun e he => (mem_qput he).elim (h e) fun h => ⟨a, b, h.1⟩
/-- No key stands twice. -/
def keysNd (es : Array MapEntry) : Prop := (es.toList.map (·.key)).Nodup
theorem keysNd_nil : keysNd #[] := List.nodup_nil
theorem map_set_same {α : Type} (g : MapEntry → α) : ∀ (l : List MapEntry) (j : Nat) (e x : MapEntry), l[j]? = some e → g x = g e → (l.set j x).map g = l.map g
  | [], j, e, x, h, _ => by simp at h
  | y :: l, 0, e, x, h, hg => by simp at h; subst h; simp [hg]
  | y :: l, j + 1, e, x, h, hg => by simp only [List.set_cons_succ, List.map_cons]; rw [map_set_same g l j e x (by simpa using h) hg]
theorem keysNd_qput {es : Array MapEntry} (h : keysNd es) (clk : Nat) (k : KeyQ) (v : Value) : keysNd (qput es clk k v).1 := by
  unfold keysNd
  rcases qput_list es clk k v with ⟨j, x, h1, h2, h3, h4, _⟩ | ⟨h1, h2, _⟩
  · rw [h4, map_set_same (·.key) _ _ x _ h1 h2.symm]; exact h
  · rw [h2, List.map_append, List.nodup_append]
    refine ⟨h, by simp, fun a ha b hb => ?_⟩
    simp only [List.map_cons, List.map_nil, List.mem_singleton] at hb
    obtain ⟨z, hz, rfl⟩ := List.mem_map.1 ha
    have := h1 z hz
    intro he
    rw [he, hb, is_self] at this; cases this
theorem mapOK_qput {es : Array MapEntry} {clk : Nat} (h : mapOK es clk) (k : KeyQ) (v : Value) : mapOK (qput es clk k v).1 (qput es clk k v).2 := by
  rcases qput_list es clk k v with ⟨j, x, h1, h2, h3, h4, h5⟩ | ⟨h1, h2, h3⟩
  · have hb : (qput es clk k v).1.toList.map (·.born) = es.toList.map (·.born) := by rw [h4]; exact map_set_same (·.born) _ _ _ _ h1 rfl
    rw [h5]
    refine ⟨fun y hy => ?_, by rw [hb]; exact h.2⟩
    have : y.born ∈ es.toList.map (·.born) := by rw [← hb]; exact List.mem_map.2 ⟨y, hy, rfl⟩
    obtain ⟨z, hz, hzb⟩ := List.mem_map.1 this
    have := h.1 z hz
    omega
  · rw [h3]
    refine ⟨fun y hy => ?_, ?_⟩
    · rw [h2] at hy
      rcases List.mem_append.1 hy with hy | hy
      · have := h.1 y hy; omega
      · rw [List.mem_singleton] at hy; subst hy; exact Nat.lt_succ_self _
    · rw [h2, List.map_append, List.nodup_append]
      refine ⟨h.2, by simp, fun a ha b hb => ?_⟩
      simp only [List.map_cons, List.map_nil, List.mem_singleton] at hb
      obtain ⟨z, hz, rfl⟩ := List.mem_map.1 ha
      have := h.1 z hz
      omega
theorem qget_of {es : Array MapEntry} (hk : keysNd es) {e : MapEntry} {k : KeyQ} (he : e ∈ es.toList) (hek : e.key = k.val) : qget es k = some e.val := by
  rw [qget_eq]
  cases hf : es.toList.find? (fun e => k.is e.key) with
  | none =>
    rw [List.find?_eq_none] at hf
    exact absurd (show k.is e.key = true by rw [hek]; exact is_self k) (by simpa using hf e he)
  | some x =>
    have hx := List.mem_of_find?_eq_some hf
    have hxk : x.key = k.val := is_key (by simpa using List.find?_some hf)
    have : x = e := by
      obtain ⟨i, hi', rfl⟩ := List.mem_iff_getElem.1 hx
      obtain ⟨j, hj, rfl⟩ := List.mem_iff_getElem.1 he
      have h1 : (es.toList.map (·.key))[i]'(by simpa using hi') = (es.toList.map (·.key))[j]'(by simpa using hj) := by simpa using hxk.trans hek.symm
      have := (List.getElem_inj hk).1 h1
      subst this; rfl
    subst this; rfl
theorem qget_mem {es : Array MapEntry} {k : KeyQ} {v : Value} (h : qget es k = some v) : ∃ e ∈ es.toList, e.key = k.val ∧ e.val = v := by
  rw [qget_eq] at h
  cases hf : es.toList.find? (fun e => k.is e.key) with
  | none => rw [hf] at h; cases h
  | some x =>
    rw [hf] at h
    exact ⟨x, List.mem_of_find?_eq_some hf, is_key (by simpa using List.find?_some hf), by simpa using h⟩
theorem Seen.keysQ {es : Array MapEntry} {done : List MapEntry} (h : Seen es done) (hk : keysNd es) : (done.map (·.key)).Nodup := by
  have hb := h.nd
  unfold List.Nodup at hb ⊢
  rw [List.pairwise_map] at hb ⊢
  refine List.Pairwise.imp_of_mem (fun {a b} ha hb' hab he => hab ?_) hb
  obtain ⟨i, hi', rfl⟩ := List.mem_iff_getElem.1 (h.mem a ha)
  obtain ⟨j, hj, rfl⟩ := List.mem_iff_getElem.1 (h.mem b hb')
  have h1 : (es.toList.map (·.key))[i]'(by simpa using hi') = (es.toList.map (·.key))[j]'(by simpa using hj) := by simpa using he
  have := (List.getElem_inj hk).1 h1
  subst this; rfl
end Go.Abs

-- part Ts
namespace Go.Abs
open Go Go.RowKit
structure EntD where
  kind : Int
  key : Bytes
  id : Int
  deriving DecidableEq
def enc (e : EntD) : List AV := [I e.kind, S e.key, I e.id]
def ent (e : EntD) : AV := .agg (enc e)
def ents (l : List EntD) : AV := .lst 3 (l.map ent)
def states (l : List (List EntD)) : AV := .lst 1 (l.map ents)
theorem pure_enc (d : EntD) : ∀ c ∈ enc d, Pure c := by
  intro c hc; simp only [enc, List.mem_cons, List.not_mem_nil, or_false] at hc; rcases hc with rfl | rfl | rfl <;> exact pure_v _
theorem pure_ent (d : EntD) : Pure (ent d) := pure_agg (pure_enc d)
theorem pure_ents (l : List EntD) : Pure (ents l) := pure_lst fun x hx c hc => by
  obtain ⟨n, _, rfl⟩ := List.mem_map.1 hx
  exact pure_enc n c hc
theorem pure_states (l : List (List EntD)) : Pure (states l) := pure_lst fun x hx c hc => by
  obtain ⟨n, _, rfl⟩ := List.mem_map.1 hx
  simp only [ents, AV.cells, List.mem_singleton] at hc; subst hc; exact pure_ents _
theorem okAll_ents (st : St) (l : List EntD) : okAll st (l.map ent) := fun c hc => by obtain ⟨n, _, rfl⟩ := List.mem_map.1 hc; rfl
theorem okAll_states (st : St) (l : List (List EntD)) : okAll st (l.map ents) := fun c hc => by obtain ⟨n, _, rfl⟩ := List.mem_map.1 hc; rfl
theorem ents_len (l : List EntD) : (l.map ent).length = l.length := by simp
theorem states_len (l : List (List EntD)) : (l.map ents).length = l.length := by simp
theorem enc_len (x : EntD) : (enc x).length = 3 := rfl
theorem enc_take (x : EntD) : (enc x).take 3 = enc x := rfl
theorem enc_ok (st : St) (x : EntD) : (enc x).all (okCell st) = true := rfl
theorem enc_0 (x : EntD) : ((enc x).drop 0).take 1 = [I x.kind] := rfl
theorem enc_0' (x : EntD) : (enc x).take 1 = [I x.kind] := rfl
theorem enc_1 (x : EntD) : ((enc x).drop 1).take 1 = [S x.key] := rfl
theorem enc_2 (x : EntD) : ((enc x).drop 2).take 1 = [I x.id] := rfl
attribute [go_sem] okAll_ents okAll_states enc ent ents states
theorem pureR_ents (l : List EntD) : PureR (ents l) := pure_ents l

/-- Does one entry precede another? -/
def prec (a b : EntD) : Bool := decide (a.kind < b.kind) || (decide (a.kind = b.kind) && Op.bytesLess a.key b.key)

theorem u8_lt (p q : UInt8) : p < q ↔ p.toNat < q.toNat := UInt8.lt_iff_toNat_lt
theorem u8_eq (p q : UInt8) : p = q ↔ p.toNat = q.toNat := UInt8.toNat_inj.symm
theorem bl_cons (x y : UInt8) (a b : Bytes) : Op.bytesLess (x :: a) (y :: b) = true ↔ x.toNat < y.toNat ∨ (x.toNat = y.toNat ∧ Op.bytesLess a b = true) := by
  simp [Op.bytesLess, u8_lt, u8_eq]
theorem bl_irrefl : ∀ a : Bytes, Op.bytesLess a a = false
  | [] => rfl
  | x :: a => by
    have := bl_irrefl a
    simp [Op.bytesLess, this]
theorem bl_total : ∀ a b : Bytes, Op.bytesLess a b = false → Op.bytesLess b a = false → a = b
  | [], [], _, _ => rfl
  | [], y :: b, h, _ => by simp [Op.bytesLess] at h
  | x :: a, [], _, h => by simp [Op.bytesLess] at h
  | x :: a, y :: b, h, k => by
    have h1 := mt (bl_cons x y a b).2 (by simp [h])
    have k1 := mt (bl_cons y x b a).2 (by simp [k])
    have e : x.toNat = y.toNat := by omega
    have ha : Op.bytesLess a b = false := by
      cases hh : Op.bytesLess a b with
      | false => rfl
      | true => exact (h1 (.inr ⟨e, hh⟩)).elim
    have hb : Op.bytesLess b a = false := by
      cases hh : Op.bytesLess b a with
      | false => rfl
      | true => exact (k1 (.inr ⟨e.symm, hh⟩)).elim
    rw [bl_total a b ha hb, UInt8.toNat_inj.1 e]
theorem bl_trans : ∀ a b c : Bytes, Op.bytesLess a b = true → Op.bytesLess b c = true → Op.bytesLess a c = true
  | _, [], c, h, _ => by simp [Op.bytesLess] at h
  | _, y :: b, [], _, k => by simp [Op.bytesLess] at k
  | [], y :: b, z :: c, _, _ => by simp [Op.bytesLess]
  | x :: a, y :: b, z :: c, h, k => by
    rw [bl_cons] at h k ⊢
    rcases h with h | ⟨h, h'⟩
    · rcases k with k | ⟨k, k'⟩
      · exact .inl (by omega)
      · exact .inl (by omega)
    · rcases k with k | ⟨k, k'⟩
      · exact .inl (by omega)
      · exact .inr ⟨by omega, bl_trans a b c h' k'⟩
theorem prec_irrefl (a : EntD) : prec a a = false := by simp [prec, bl_irrefl]
theorem prec_total (a b : EntD) (h : prec a b = false) (k : prec b a = false) : a.kind = b.kind ∧ a.key = b.key := by
  simp only [prec, Bool.or_eq_false_iff, decide_eq_false_iff_not, Bool.and_eq_false_imp, decide_eq_true_eq] at h k
  have e : a.kind = b.kind := by omega
  exact ⟨e, bl_total _ _ (h.2 e) (k.2 e.symm)⟩
theorem prec_trans (a b c : EntD) (h : prec a b = true) (k : prec b c = true) : prec a c = true := by
  simp only [prec, Bool.or_eq_true, decide_eq_true_eq, Bool.and_eq_true] at h k ⊢
  rcases h with h | ⟨h, h'⟩
  · rcases k with k | ⟨k, k'⟩
    · exact .inl (by omega)
    · exact .inl (by omega)
  · rcases k with k | ⟨k, k'⟩
    · exact .inl (by omega)
    · exact .inr ⟨by omega, bl_trans _ _ _ h' k'⟩
end Go.Abs

-- part E1
namespace Go.Proofs.Ytckoolpjphhfdaa
open Go Go.Abs
set_option linter.unusedSimpArgs false
universe u
variable {α : Type u}
theorem idxI_find {α : Type} (p : α → Bool) (l : List α) : (l.find? p = none ∧ idxI p l = -1) ∨ ∃ k, ∃ h : k < l.length, l.find? p = some l[k] ∧ idxI p l = (k : Int) := by
  unfold idxI
  cases h : l.findIdx? p with
  | none =>
    refine .inl ⟨?_, rfl⟩
    rw [List.find?_eq_none]
    rw [List.findIdx?_eq_none_iff] at h
    exact fun x hx => by simp [h x hx]
  | some k =>
    rw [List.findIdx?_eq_some_iff_getElem] at h
    obtain ⟨h1, h2, h3⟩ := h
    refine .inr ⟨k, h1, ?_, rfl⟩
    rw [List.find?_eq_some_iff_getElem]
    exact ⟨h2, k, h1, rfl, fun j hj => by simpa using h3 j hj⟩
theorem evs_len (l : List Evt) : (l.map ev).length = l.length := by simp
theorem evc_1' (x : Evt) : ((evc x).tail).take 1 = [S x.room] := rfl
attribute [go_sem] evc_1'
def evZ : Evt := ⟨0, [], [], 0, false, [], 0, 0, [], [], ⟨[], 0, 0, false, [], [], [], ⟨[], [], 0, 0, 0, 0, 0, 0, 0⟩⟩, 0, ⟨[], 0⟩⟩
def evZc : List AV := [I 0, S [], S [], I 0, B false, S [], I 0, I 0, .v (.slice none 0 0), .v (.slice none 0 0), S [], I 0, I 0, B false, S [], .v (.slice none 0 0), .v (.slice none 0 0), .v (.slice none 0 0), .v (.slice none 0 0), I 0, I 0, I 0, I 0, I 0, I 0, I 0, I 0, S [], I 0]
theorem wk_evZ : WkL0 evZc (evc evZ) := ⟨.refl _, .refl _, .refl _, .refl _, .refl _, .refl _, .refl _, .refl _, .nil _, .nil _, .refl _, .refl _, .refl _, .refl _, .refl _, .nil _, .nil _, .nil _, .nil _, .refl _, .refl _, .refl _, .refl _, .refl _, .refl _, .refl _, .refl _, .refl _, .refl _, trivial⟩
/-- An event as a literal makes it: an empty list is nil. -/
def nilOr (l : List α) (p : AV) : AV := match l with
  | [] => .v (.slice none 0 0)
  | _ :: _ => p
theorem wk_nilOr {sz : Nat} {f : α → AV} (l : List α) : Wk0 (nilOr l (.lst sz (l.map f))) (.lst sz (l.map f)) := by
  cases l with
  | nil => exact .nil _
  | cons x l => exact .refl _
def evL (x : Evt) : List AV := [I x.id, S x.room, S x.sender, I x.kind, B x.state, S x.key, I x.time, I x.depth, nilOr x.prev (ints x.prev), nilOr x.auth (ints x.auth),
  S x.content.text, I x.content.n, I x.content.target, B x.content.thread, S x.content.via, nilOr x.content.allow (strs x.content.allow), nilOr x.content.deny (strs x.content.deny), nilOr x.content.levels.users (.lst 2 (x.content.levels.users.map fun u => .agg (lvc u))), nilOr x.content.levels.kinds (.lst 2 (x.content.levels.kinds.map fun u => .agg (klc u))),
  I x.content.levels.user, I x.content.levels.message, I x.content.levels.state, I x.content.levels.invite, I x.content.levels.kick, I x.content.levels.ban, I x.content.levels.redact, I x.hash, S x.sig.server, I x.sig.sum]
theorem wk_evL (x : Evt) : WkL0 (evL x) (evc x) := ⟨.refl _, .refl _, .refl _, .refl _, .refl _, .refl _, .refl _, .refl _, wk_nilOr _, wk_nilOr _, .refl _, .refl _, .refl _, .refl _, .refl _, wk_nilOr _, wk_nilOr _, wk_nilOr _, wk_nilOr _, .refl _, .refl _, .refl _, .refl _, .refl _, .refl _, .refl _, .refl _, .refl _, .refl _, trivial⟩
theorem wk_evsL (l : List Evt) : Wk (.lst 29 (l.map fun x => .agg (evL x))) (evs l) := .lst (by simp) fun i x y hx hy => by
  simp only [List.getElem?_map, Option.map_eq_some_iff] at hx hy
  obtain ⟨e, he, rfl⟩ := hx
  obtain ⟨e', he', rfl⟩ := hy
  rw [he] at he'; cases he'
  exact wk_evL e
def getE (l : List Evt) (id : Int) : Option Evt := l.find? fun e => e.id == id
def optE (o : Option Evt) : AV := .tup [ev (o.getD evZ), B o.isSome]
theorem pureR_optE (o : Option Evt) : PureR (optE o) := by
  intro r hr
  simp only [List.mem_cons, List.not_mem_nil, or_false] at hr
  rcases hr with rfl | rfl
  · exact pure_ev _
  · exact pure_B _
attribute [go_sem] optE
theorem pure_clo {f : FuncId} {cap : List AV} (h : ∀ c ∈ cap, Pure c) : Pure (.fn (.func f) [] cap) := pure_fn (fun c h => by cases h) h
set_option maxRecDepth 8000 in
set_option maxHeartbeats 4000000 in
theorem indexFunc_gen (f : FuncId) (cap : List AV) (p : Evt → Bool) (hp : ∀ e, AC Try.prog f (ev e :: cap) (B (p e))) (hcap : ∀ c ∈ cap, Pure c) (l : List Evt) : AC Try.prog 40 [evs l, .fn (.func f) [] cap] (I (idxI p l)) := by
  refine AC.of_body Try.func40 rfl rfl Try.ntmps40 (congrArg Array.toList Try.results40) (by simp) (pures2 (pure_evs _) (pure_clo hcap)) (pure_I _) fun w S' => AWp.bound 0 rfl fun hlen => AWp.of_vc [] ?_
  rw [evs_len] at hlen
  simp [go_sem]
  refine AWp.loop_vc [] (fun m s => ∃ k : Nat, k ≤ l.length ∧ m = l.length - k ∧ s.σ 0 = evs l ∧ s.σ 1 = .fn (.func f) [] cap ∧ s.σ 7 = I l.length ∧ s.σ 8 = I k ∧ ∀ (j : Nat) e, j < k → l[j]? = some e → p e = false) l.length ⟨0, by simp [go_sem]⟩ ?_
  rintro m s ⟨k, hk, rfl, h0, h1, h7, h8, hno⟩
  by_cases hlt : k < l.length
  · simp [go_sem, h0, h1, h7, h8, hlt]
    refine CallSem.pure (hp l[k]) (by simp [go_sem]) ?_
    cases hpk : p l[k] with
    | true =>
      simp [go_sem, h0, h1, h7, h8, hlt]
      refine PostR.ret ?_
      simp [go_sem, idxI_hit hlt hpk hno]
    | false =>
      simp [go_sem, h0, h1, h7, h8, hlt, wrap_succ hlt hlen]
      refine ⟨l.length - (k + 1), by omega, k + 1, by omega, rfl, rfl, ?_⟩
      intro j e hj he
      rcases Nat.lt_succ_iff_lt_or_eq.1 hj with hj | rfl
      · exact hno j e hj he
      · rw [List.getElem?_eq_getElem hlt] at he; cases he; exact hpk
  · simp [go_sem, h0, h1, h7, h8, hlt]
    refine PostR.ret ?_
    have : idxI p l = -1 := idxI_miss fun j x hx => hno j x (by have := (List.getElem?_eq_some_iff.1 hx).1; omega) hx
    simp [go_sem, this]
end Go.Proofs.Ytckoolpjphhfdaa

-- part U1
namespace Go.Proofs.Ytckoolpjphhfdaa
open Go Go.Abs
set_option linter.unusedSimpArgs false
set_option maxHeartbeats 400000 in
theorem has_ac (l : List Int) (n : Int) : AC Try.prog 48 [ints l, I n] (B (l.contains n)) := by
  refine AC.of_body Try.func48 rfl rfl Try.ntmps48 (congrArg Array.toList Try.results48) (by simp) (pures2 (pure_ints _) (pure_I _)) (pure_B _) fun w S => AWp.bound 0 rfl fun hlen => AWp.of_vc [] ?_
  rw [ints_len] at hlen
  simp [go_sem]
  refine AWp.loop_vc [] (fun m s => ∃ k : Nat, k ≤ l.length ∧ m = l.length - k ∧ s.σ 0 = ints l ∧ s.σ 1 = I n ∧ s.σ 5 = I k ∧ ∀ j, j < k → ∀ x, l[j]? = some x → x ≠ n) l.length ⟨0, by simp [go_sem]⟩ ?_
  rintro m s ⟨k, hk, rfl, h0, h1, h5, hno⟩
  by_cases hlt : k < l.length
  · simp [go_sem, h0, h1, h5, hlt]
    by_cases hp : l[k] = n
    · simp [go_sem, h0, h1, h5, hlt, hp]
      refine PostR.ret ?_
      simp [go_sem]
      exact hp ▸ List.getElem_mem _
    · simp [go_sem, h0, h1, h5, hlt, hp]
      refine ⟨l.length - (k + 1), by omega, k + 1, by omega, rfl, ?_⟩
      simp [go_sem, h0, h1, h5, wrap_succ hlt hlen]
      intro j hj x hx
      rcases Nat.lt_succ_iff_lt_or_eq.1 hj with hj | rfl
      · exact hno j hj x hx
      · rw [List.getElem?_eq_getElem hlt] at hx; cases hx; exact hp
  · simp [go_sem, h0, h1, h5, hlt]
    refine PostR.ret ?_
    simp [go_sem]
    intro hm
    obtain ⟨j, hj, hx⟩ := List.mem_iff_getElem.1 hm
    exact hno j (by omega) n (by rw [List.getElem?_eq_getElem hj, hx]) rfl

end Go.Proofs.Ytckoolpjphhfdaa

-- part U2
namespace Go.Proofs.Ytckoolpjphhfdaa
open Go Go.Abs
set_option linter.unusedSimpArgs false

def putL (l : List Int) (n : Int) : List Int := if l.contains n then l else l.takeWhile (· < n) ++ n :: l.dropWhile (· < n)

set_option maxHeartbeats 400000 in
theorem same_ac (a b : List Int) : AC Try.prog 19 [ints a, ints b] (B (a == b)) := by
  refine AC.of_body Try.func19 rfl rfl Try.ntmps19 (congrArg Array.toList Try.results19) (by simp) (pures2 (pure_ints _) (pure_ints _)) (pure_B _) fun w S => AWp.bound 0 rfl fun hlen => AWp.of_vc [] ?_
  rw [ints_len] at hlen
  by_cases hab : a.length = b.length
  case neg =>
    have hab' : ¬ (a.length : Int) = b.length := by omega
    simp [go_sem, hab, hab']
    refine PostR.ret ?_
    simp [go_sem]
    intro h; exact hab (by rw [h])
  simp [go_sem, hab]
  refine AWp.loop_vc [] (fun m s => ∃ k : Nat, k ≤ a.length ∧ m = a.length - k ∧ s.σ 0 = ints a ∧ s.σ 1 = ints b ∧ s.σ 5 = I k ∧ a.take k = b.take k) a.length ⟨0, by simp [go_sem]⟩ ?_
  rintro m s ⟨k, hk, rfl, h0, h1, h5, hno⟩
  by_cases hlt : k < a.length
  · have hlt' : k < b.length := by omega
    simp [go_sem, h0, h1, h5, hlt, hlt']
    refine AWp.drawAll rfl (by kernel_rfl) ?_
    simp [go_sem, h0, h1, h5, hlt, hlt']
    by_cases hp : a[k] = b[k]
    · rw [if_pos hp]
      refine ⟨a.length - (k + 1), by omega, k + 1, by omega, rfl, by rw [wrap_succ hlt hlen]; rfl, ?_⟩
      rw [List.take_succ_eq_append_getElem hlt, List.take_succ_eq_append_getElem hlt', hno, hp]
    · rw [if_neg hp]
      refine PostR.ret ?_
      simp [go_sem]
      rintro rfl
      exact hp rfl
  · simp [go_sem, h0, h1, h5, hlt]
    refine PostR.ret ?_
    simp [go_sem]
    rw [List.take_of_length_le (by omega), List.take_of_length_le (by omega)] at hno
    exact hno

theorem takeWhile_take (l : List Int) (n : Int) : ∀ k, k ≤ l.length → (∀ j, j < k → ∀ x, l[j]? = some x → x < n) → (∀ x, l[k]? = some x → ¬ x < n) → l.takeWhile (· < n) = l.take k ∧ l.dropWhile (· < n) = l.drop k := by
  induction l with
  | nil => intro k hk _ _; simp at hk; subst hk; simp
  | cons x l ih =>
    intro k hk h1 h2
    cases k with
    | zero =>
      have := h2 x rfl
      simp [List.takeWhile_cons, List.dropWhile_cons, this]
    | succ k =>
      have hx := h1 0 (by omega) x rfl
      obtain ⟨e1, e2⟩ := ih k (by simpa using hk) (fun j hj y hy => h1 (j + 1) (by omega) y (by simpa using hy)) (fun y hy => h2 y (by simpa using hy))
      simp [List.takeWhile_cons, List.dropWhile_cons, hx, e1, e2]

set_option maxRecDepth 4000 in
set_option maxHeartbeats 1000000 in
theorem put_ac (l : List Int) (n : Int) (hsz : l.length ≤ 1000000000) : AC Try.prog 37 [ints l, I n] (ints (putL l n)) := by
  refine AC.of_body Try.func37 rfl rfl Try.ntmps37 (congrArg Array.toList Try.results37) (by simp) (pures2 (pure_ints _) (pure_I _)) (pureR_ints _) fun w S => AWp.of_vc [25] ?_
  simp [go_sem]
  refine CallSem.pure (has_ac l n) (by simp [go_sem]) ?_
  by_cases hn : l.contains n = true
  · have hn' : n ∈ l := by simpa using hn
    simp [go_sem, hn']
    refine PostR.ret ?_
    simp [go_sem, putL, hn']
  have hn' : ¬ n ∈ l := by simpa using hn
  simp [go_sem, hn']
  refine AWp.loop_vc [] (fun m s => ∃ k : Nat, k ≤ l.length ∧ m = l.length - k ∧ s.σ 0 = ints l ∧ s.σ 1 = I n ∧ s.σ 5 = I k ∧ ∀ j, j < k → ∀ x, l[j]? = some x → x < n) l.length ⟨0, by simp [go_sem]⟩ ?_
  rintro m s ⟨k, hk, rfl, h0, h1, h5, hno⟩
  have key : ¬ (∃ x, l[k]? = some x ∧ x < n) → ints (putL l n) = ints (l.take k ++ n :: l.drop k) := by
    intro hx
    obtain ⟨e1, e2⟩ := takeWhile_take l n k hk hno fun x h1 h2 => hx ⟨x, h1, h2⟩
    simp [putL, hn', e1, e2]
  by_cases hlt : k < l.length
  · simp [go_sem, h0, h1, h5, hlt]
    by_cases hp : l[k] < n
    · simp [go_sem, h0, h1, h5, hlt, hp]
      refine ⟨l.length - (k + 1), by omega, k + 1, by omega, rfl, by rw [wrap_succ hlt (show l.length ≤ maxLen by unfold maxLen; omega)]; rfl, ?_⟩
      intro j hj x hx
      rcases Nat.lt_succ_iff_lt_or_eq.1 hj with hj | rfl
      · exact hno j hj x hx
      · rw [List.getElem?_eq_getElem hlt] at hx; cases hx; exact hp
    · simp [go_sem, h0, h1, h5, hlt, hp, hk]
      refine ⟨⟨by omega, by omega⟩, ⟨by omega, by omega⟩, ⟨by omega, by omega⟩, ?_⟩
      refine PostR.retW [25] ?_ (.refl _)
      have e : List.map I (putL l n) = List.map I (l.take k) ++ I n :: List.map I (l.drop k) := by
        have := key (by rintro ⟨x, hx, hlx⟩; rw [List.getElem?_eq_getElem hlt] at hx; cases hx; exact hp hlx)
        simpa [ints] using this
      rw [e]
      simp [go_sem]
      exact List.take_of_length_le (by simp)
  · simp [go_sem, h0, h1, h5, hlt, hk]
    refine ⟨⟨by omega, by omega⟩, ⟨by omega, by omega⟩, ⟨by omega, by omega⟩, ?_⟩
    refine PostR.retW [25] ?_ (.refl _)
    have e : List.map I (putL l n) = List.map I (l.take k) ++ I n :: List.map I (l.drop k) := by
      have := key (by rintro ⟨x, hx, hlx⟩; rw [List.getElem?_eq_none (by omega)] at hx; cases hx)
      simpa [ints] using this
    rw [e]
    simp [go_sem]
    exact List.take_of_length_le (by simp)

theorem putL_len (l : List Int) (n : Int) : (putL l n).length ≤ l.length + 1 := by
  unfold putL
  split
  · omega
  · have h := congrArg List.length (List.takeWhile_append_dropWhile (p := fun x : Int => decide (x < n)) (l := l))
    simp only [List.length_append] at h
    simp only [List.length_append, List.length_cons]
    omega
def sortedL (l : List Int) : List Int := l.foldl putL []
theorem foldl_putL_len (l : List Int) : ∀ a : List Int, (l.foldl putL a).length ≤ a.length + l.length := by
  induction l with
  | nil => intro a; simp
  | cons x l ih =>
    intro a
    have h1 := ih (putL a x)
    have h2 := putL_len a x
    simp only [List.foldl_cons, List.length_cons]
    omega

end Go.Proofs.Ytckoolpjphhfdaa

-- part U3
namespace Go.Proofs.Ytckoolpjphhfdaa
open Go Go.Abs
set_option linter.unusedSimpArgs false


end Go.Proofs.Ytckoolpjphhfdaa

-- part Fs
namespace Go.Abs
open Go Go.RowKit Go.Sort Go.Shelf Go.Proofs

theorem compact_len {α : Type} [Inhabited α] [DecidableEq α] (l : List α) : (Lib.compact l).length ≤ l.length := by
  unfold Lib.compact Lib.compactUpTo
  rw [List.length_map]
  exact Nat.le_trans (List.length_filter_le _ _) (by simp)

theorem putCells_size {α : Type} [Inhabited α] (enc : α → Value) (off : Nat) (d : Array α) (c : Array Value) : (putCells enc off d c).size = c.size := by simp [putCells]

theorem putCells_take {α : Type} [Inhabited α] (enc : α → Value) (d : Array α) (c : Array Value) (h : d.size ≤ c.size) (m : Nat) (hm : m ≤ d.size) : (putCells enc 0 d c).toList.take m = (d.toList.map enc).take m := by
  apply List.ext_getElem?
  intro k
  by_cases hk : k < m
  · rw [List.getElem?_take, if_pos hk, List.getElem?_take, if_pos hk, Array.getElem?_toList, List.getElem?_map, Array.getElem?_toList]
    have hd : k < d.size := by omega
    have hc : k < c.size := by omega
    simp [putCells, hd, hc, getElem!_pos d k hd]
  · rw [List.getElem?_take, if_neg hk, List.getElem?_take, if_neg hk]

theorem rowWorld {α : Type} [Inhabited α] (enc : α → Value) {w : World} {blk : Nat} {cur : Array Value} {e : TypeId} (hb : w.heap[blk]? = some (.cells cur e (0, 0))) (d : Array α) (n : Nat) (os : Array Obj) :
    w.grownBy (grow (putRow enc (Sort.ahead w n) blk 0 d) os) (some blk) ∧ (grow (putRow enc (Sort.ahead w n) blk 0 d) os).heap[blk]? = some (.cells (putCells enc 0 d cur) e (0, 0)) := by
  have hlt : blk < w.heap.size := (Array.getElem?_eq_some_iff.1 hb).1
  refine ⟨⟨rfl, rfl, rfl, by simp, fun k hk hne => ?_⟩, ?_⟩
  · rw [heap_grow_old _ _ (by simpa using hk)]
    simp only [putRow, mapBlock, heap_ahead, Array.getElem?_modify]
    rw [if_neg (fun he => hne (by rw [he]))]
  · rw [heap_grow_old _ _ (by simpa using hlt)]
    simp only [putRow, mapBlock, heap_ahead, Array.getElem?_modify, if_true]
    rw [hb]; rfl

theorem holds_of {α : Type} [Inhabited α] (enc : α → Value) {w : World} {blk : Nat} {cur : Array Value} {e : TypeId} (hb : w.heap[blk]? = some (.cells cur e (0, 0))) (d : Array α) (h : d.size ≤ cur.size) (ht : cur.toList.take d.size = d.toList.map enc) : Holds enc w blk 0 d := by
  intro j hj
  refine ⟨?_, ?_⟩
  · rw [cell_of_row _ _ _ _ _ _ hb, Nat.zero_add]
    have h1 : (cur.toList.take d.size)[j]? = cur[j]? := by rw [List.getElem?_take, if_pos hj, Array.getElem?_toList]
    rw [← h1, ht]
    simp [hj, getElem!_pos d j hj]
  · simp [World.frozen?, hb]

section
variable {G : Ctx} {st : St} {E : Env} {a : Act}

theorem VRs_v {ps : List AV} {vs us : List Value} (h : VRs E ps us) (has : ps = vs.map .v) : us = vs := by
  subst has
  obtain ⟨h1, h2⟩ := h
  refine List.ext_getElem? fun i => ?_
  simp only [List.length_map] at h1
  by_cases hi : i < vs.length
  · have e1 : vs[i]? = some vs[i] := List.getElem?_eq_getElem hi
    have e2 : us[i]? = some (us[i]'(by omega)) := List.getElem?_eq_getElem _
    have := h2 i (.v vs[i]) _ (by simp [e1]) e2
    rw [e1, e2, this.v_inv]
  · rw [List.getElem?_eq_none (by omega), List.getElem?_eq_none (by omega)]

theorem vrs_v (vs : List Value) {ps : List AV} (has : ps = vs.map .v) : VRs E ps vs := by
  subst has
  refine ⟨by simp, fun i c u hc hu => ?_⟩
  simp only [List.getElem?_map, Option.map_eq_some_iff] at hc
  obtain ⟨x, hx, rfl⟩ := hc
  rw [hx] at hu; cases hu; exact .v _

theorem flat_ints (l : List Int) : (l.map fun n => AV.v (.int .i64 n)).flatMap AV.cells = (l.map (Value.int .i64)).map .v := by
  induction l with
  | nil => rfl
  | cons n l ih => simp [AV.cells, ih]

/-- An own array of plain values that was rewritten in place. -/
theorem Rel.rewrite (hr : Rel G st E a) {id e sz : Nat} {xs ys : List AV} (hh : st.h id = .arr e sz xs) {w' : World} (hg : E.w.grownBy w' (E.own id).val.ownBlock) {vs' : List Value} (hlen : ∀ y ∈ ys, y.cells.length = sz) (hys : ys.flatMap AV.cells = vs'.map .v)
    {v' : Value} (hown : w'.ownsRowW G.w0.heap.size e sz v' ys.length vs') (hob : ∀ b, v'.ownBlock = some b → (E.own id).val.ownBlock = some b) (k : Nat) (hk : E.ver id ≤ k) (hkeep : k = E.ver id → v' = (E.own id).val) :
    ∃ E', E'.w = w' ∧ E'.ver = upd E.ver id k ∧ (E'.own id).val = v' ∧ Rel G { st with ver := upd st.ver id k, h := upd st.h id (.arr e sz ys) } E' a := by
  have hb := hr.blocks id
  rw [hh] at hb
  obtain ⟨hsz, us, hown0, hlen0, hvs0, hblk0⟩ := hb
  let o : Own := ⟨v', (E.own id).blk, (E.own id).sz⟩
  refine ⟨{ ver := upd E.ver id k, own := upd E.own id o, S := E.S, w := w' }, rfl, rfl, by simp [upd, o], ?_⟩
  refine hr.own id (.arr e sz ys) o k rfl hk rfl (fun h => by simp only [o]; rw [hkeep h]) rfl (hr.below.grown hg hr.below.size fun j hj => ?_) hg.size (fun b hlt hne => hg.block b hlt ?_) ?_ fun b hb => ?_
  · exact (hown0.lt j hj).1
  · rw [hh] at hne; exact fun he => hne he.symm
  · exact ⟨hsz, vs', hown, hlen, vrs_v vs' hys, fun b hb => ⟨(hblk0 b (hob b hb)).1, (hblk0 b (hob b hb)).2⟩⟩
  · rw [hh]; exact .inl (hob b hb)

/-- The body's own row, as a callee sees it. -/
theorem Rel.arrRow (hr : Rel G st E a) {id e sz : Nat} {xs : List AV} (hh : st.h id = .arr e sz xs) {vs : List Value} (hxs : xs.flatMap AV.cells = vs.map .v) :
    vs.length = xs.length * sz ∧ (((E.own id).val = .slice none 0 0 ∧ xs = []) ∨ ∃ g cap cur, (E.own id).val = .slice (some ⟨g, 0, none⟩) xs.length cap ∧ G.w0.heap.size ≤ g ∧ E.w.heap[g]? = some (.cells cur e (0, 0)) ∧ xs.length ≤ cap ∧ cap ≤ maxLen ∧ cap * sz ≤ cur.size ∧ cur.toList.take (xs.length * sz) = vs) := by
  have hb := hr.blocks id
  rw [hh] at hb
  obtain ⟨hsz, us, hown, hlen, hvs, hblk⟩ := hb
  have := VRs_v hvs hxs
  subst this
  refine ⟨hown.1, ?_⟩
  rcases hown.2 with ⟨h1, h2⟩ | h
  · exact .inl ⟨h1, List.eq_nil_of_length_eq_zero h2⟩
  · exact .inr h

theorem upd_self {α : Type} (f : Nat → α) (i : Nat) : upd f i (f i) = f := by funext j; simp only [upd]; split <;> simp_all

/-- slices.Sort at ints, on an array of the walk's own. -/
theorem CallSem.sortInts {ρ : Ren} {id k e : Nat} {l : List Int} {dst : Option Tmp} {K : St → Prop} (L : Lays.n189 G.P ρ) (hfn : ∃ fn, G.P.funcs[ρ.f 189]? = some fn ∧ fn.body.isSome = true ∧ (fn.name == "runtime.NumGoroutine") = false)
    (hk : k = st.ver id) (hh : st.h id = .arr e 1 (l.map fun n => .v (.int .i64 n))) (hd : dstOK G.n dst) (hsz : l.length < 4611686018427387904)
    (hK : K ((st.setH id (.arr e 1 ((l.mergeSort fun x y => decide (x ≤ y)).map fun n => .v (.int .i64 n)))).put dst (.tup []))) : CallSem G (ρ.f 189) [.ref id k] dst K st := by
  refine ⟨hfn, fun E a vs hr hl hv => ?_⟩
  have hs : vs = #[(E.own id).val] := by
    have h0 := hv 0 _ rfl
    have : vs.getD 0 undef = (E.own id).val := by cases h0 with | ref _ _ _ h1 h2 => exact h2 (by rw [hr.ver]; exact hk)
    have hs1 : vs.size = 1 := hl
    apply Array.ext
    · simpa using hl
    · intro i h1 h2
      have : i = 0 := by omega
      subst this
      simpa [Array.getD_eq_getD_getElem?, hs1] using this
  have hxs : (l.map fun n => AV.v (.int .i64 n)).flatMap AV.cells = (l.map (Value.int .i64)).map .v := by
    exact flat_ints _
  have hys : ((l.mergeSort fun x y => decide (x ≤ y)).map fun n => AV.v (.int .i64 n)).flatMap AV.cells = ((l.mergeSort fun x y => decide (x ≤ y)).map (Value.int .i64)).map .v := by
    exact flat_ints _
  have hlen1 : ∀ y ∈ ((l.mergeSort fun x y => decide (x ≤ y)).map fun n => AV.v (.int .i64 n)), y.cells.length = 1 := by
    intro y hy; obtain ⟨n, _, rfl⟩ := List.mem_map.1 hy; rfl
  obtain ⟨hvl, hrow⟩ := hr.arrRow hh hxs
  have hve : E.ver id = st.ver id := by rw [hr.ver]
  rw [hs]
  rcases hrow with ⟨hnil, hx⟩ | ⟨g, cap, cur, hval, hg, hheap, hn, hc, hcs, ht⟩
  · have hl0 : l = [] := by simpa using hx
    subst hl0
    rw [hnil]
    refine (Any.slices_Sort_int_none L none 0 E.w).mono ?_
    rintro en w' ⟨rfl, rfl⟩
    refine ⟨_, rfl, _, E, rfl, Rel.put (r := .tup []) ?_ (.tup [] #[] rfl (by simp)) (fun d he => by rw [he] at hd; exact hd), hK⟩
    have : st.setH id (.arr e 1 (([] : List Int).mergeSort (fun x y => decide (x ≤ y)) |>.map fun n => AV.v (.int .i64 n))) = st := by
      simp only [St.setH, List.mergeSort_nil, List.map_nil]
      have h1 : st.h id = .arr e 1 [] := by simpa using hh
      rw [← h1, upd_self]
    rw [this]; exact hr
  · have hll : (l.map fun n => AV.v (.int .i64 n)).length = l.length := by simp
    rw [hll] at hval hn
    simp only [hll, Nat.mul_one] at ht hcs
    rw [hval]
    have hsz' : l.toArray.size ≤ cur.size := by simp; omega
    have hblt : g < E.w.heap.size := (Array.getElem?_eq_some_iff.1 hheap).1
    refine (Any.slices_Sort_int L g 0 cap l E.w (holds_of _ hheap l.toArray hsz' (by simpa using ht)) hblt hsz).mono ?_
    rintro en w' ⟨rfl, n, os, rfl⟩
    obtain ⟨hgb, hb'⟩ := rowWorld (Value.int .i64) hheap (l.mergeSort fun x y => decide (x ≤ y)).toArray n os
    have hml : (l.mergeSort fun x y => decide (x ≤ y)).length = l.length := List.length_mergeSort _
    obtain ⟨E', hw, hver, hval', hrel⟩ := hr.rewrite (v' := (E.own id).val) hh (by rw [hval]; exact hgb) hlen1 hys (by
      rw [hval]
      refine ⟨by simp [hml], .inr ⟨g, cap, _, by simp [hml], hg, hb', by simpa [hml] using hn, hc, ?_, ?_⟩⟩
      · rw [putCells_size]; simpa using hcs
      · rw [putCells_take _ _ _ (by simp [hml]; omega) _ (by simp), List.take_of_length_le (by simp)]) (fun _ h => h) (E.ver id) (Nat.le_refl _) (fun _ => rfl)
    refine ⟨_, rfl, _, E', hw, Rel.put (r := .tup []) ?_ (.tup [] #[] rfl (by simp)) (fun d he => by rw [he] at hd; exact hd), hK⟩
    have : ({ st with ver := upd st.ver id (E.ver id), h := upd st.h id (.arr e 1 ((l.mergeSort fun x y => decide (x ≤ y)).map fun n => AV.v (.int .i64 n))) } : St) = st.setH id (.arr e 1 ((l.mergeSort fun x y => decide (x ≤ y)).map fun n => .v (.int .i64 n))) := by
      simp only [St.setH, hve, upd_self]
    rw [← this]; exact hrel

/-- slices.Compact at ints, on an array of the walk's own. -/
theorem CallSem.compactInts {ρ : Ren} {id k e : Nat} {l : List Int} {dst : Option Tmp} {K : St → Prop} (L : Lays2.n20 G.P ρ) (hfn : ∃ fn, G.P.funcs[ρ.f 20]? = some fn ∧ fn.body.isSome = true ∧ (fn.name == "runtime.NumGoroutine") = false)
    (hk : k = st.ver id) (hh : st.h id = .arr e 1 (l.map fun n => .v (.int .i64 n))) (hd : dstOK G.n dst) (hcl : (Lib.compact l).length ≤ l.length)
    (hK : K ((st.setArr id e 1 ((Lib.compact l).map fun n => .v (.int .i64 n))).put dst (.ref id (st.ver id + 1)))) : CallSem G (ρ.f 20) [.ref id k] dst K st := by
  refine ⟨hfn, fun E a vs hr hl hv => ?_⟩
  have hs : vs = #[(E.own id).val] := by
    have h0 := hv 0 _ rfl
    have : vs.getD 0 undef = (E.own id).val := by cases h0 with | ref _ _ _ h1 h2 => exact h2 (by rw [hr.ver]; exact hk)
    have hs1 : vs.size = 1 := hl
    apply Array.ext
    · simpa using hl
    · intro i h1 h2
      have : i = 0 := by omega
      subst this
      simpa [Array.getD_eq_getD_getElem?, hs1] using this
  have hxs : (l.map fun n => AV.v (.int .i64 n)).flatMap AV.cells = (l.map (Value.int .i64)).map .v := by
    exact flat_ints _
  have hys : ((Lib.compact l).map fun n => AV.v (.int .i64 n)).flatMap AV.cells = ((Lib.compact l).map (Value.int .i64)).map .v := by
    exact flat_ints _
  have hlen1 : ∀ y ∈ ((Lib.compact l).map fun n => AV.v (.int .i64 n)), y.cells.length = 1 := by
    intro y hy; obtain ⟨n, _, rfl⟩ := List.mem_map.1 hy; rfl
  obtain ⟨hvl, hrow⟩ := hr.arrRow hh hxs
  have hve : E.ver id = st.ver id := by rw [hr.ver]
  rw [hs]
  rcases hrow with ⟨hnil, hx⟩ | ⟨g, cap, cur, hval, hg, hheap, hn, hc, hcs, ht⟩
  · have hl0 : l = [] := by simpa using hx
    subst hl0
    have hc0 : Lib.compact ([] : List Int) = [] := List.eq_nil_of_length_eq_zero (by simpa using hcl)
    rw [hnil]
    refine (Any.slices_Compact_int_empty L none 0 E.w).mono ?_
    rintro en w' ⟨rfl, rfl⟩
    obtain ⟨E', hw, hver, hval', hrel⟩ := hr.rewrite (v' := .slice none 0 0) (w' := E.w) hh ⟨rfl, rfl, rfl, Nat.le_refl _, fun _ _ _ => rfl⟩ hlen1 hys (by rw [hc0]; exact ⟨by simp, .inl ⟨rfl, rfl⟩⟩) (fun b h => by simp [Value.ownBlock] at h) (st.ver id + 1) (by omega) (fun h => by omega)
    refine ⟨_, rfl, _, E', hw, Rel.put hrel (.ref _ _ _ ?_ fun _ => ?_) (fun d he => by rw [he] at hd; exact hd), hK⟩
    · rw [hver]; simp [upd]
    · rw [hval']
  · have hll : (l.map fun n => AV.v (.int .i64 n)).length = l.length := by simp
    rw [hll] at hval hn
    simp only [hll, Nat.mul_one] at ht hcs
    rw [hval]
    have hsz : l.toArray.size ≤ cur.size := by simp; omega
    refine (Any.slices_Compact_int L g 0 cap l E.w (holds_of _ hheap l.toArray hsz (by simpa using ht)) (by unfold maxLen at hc; omega) hn).mono ?_
    rintro en w' ⟨rfl, q, rfl⟩
    obtain ⟨hgb, hb'⟩ := rowWorld (Value.int .i64) hheap (Lib.compact l ++ List.replicate (l.length - (Lib.compact l).length) 0).toArray q #[]
    simp only [grow_empty] at hgb hb'
    obtain ⟨E', hw, hver, hval', hrel⟩ := hr.rewrite (v' := .slice (some ⟨g, 0, none⟩) (Lib.compact l).length cap) hh (by rw [hval]; exact hgb) hlen1 hys (by
      refine ⟨by simp, .inr ⟨g, cap, _, by simp, hg, hb', by simp; omega, hc, ?_, ?_⟩⟩
      · rw [putCells_size]; simpa using hcs
      · rw [putCells_take _ _ _ (by simp; omega) _ (by simp)]
        simp [List.take_append]) (fun b h => by rw [hval]; exact h) (st.ver id + 1) (by omega) (fun h => by omega)
    refine ⟨_, rfl, _, E', hw, Rel.put hrel (.ref _ _ _ ?_ fun _ => ?_) (fun d he => by rw [he] at hd; exact hd), hK⟩
    · rw [hver]; simp [upd]
    · rw [hval']

end
end Go.Abs

-- part Fw
namespace Go.Abs
open Go Go.RowKit Go.Sort Go.Shelf Go.Proofs

theorem flatK_get {α : Type} (enc : α → List Value) (k : Nat) (h0 : 0 < k) (hk : ∀ x, (enc x).length = k) : ∀ (l : List α) (t : Nat), (l.flatMap enc)[t]? = (l[t / k]?).bind fun x => (enc x)[t % k]?
  | [], t => by simp
  | x :: l, t => by
    rw [List.flatMap_cons]
    by_cases ht : t < k
    · rw [List.getElem?_append_left (by rw [hk]; exact ht), Nat.div_eq_of_lt ht, Nat.mod_eq_of_lt ht]; rfl
    · have h1 : t / k = (t - k) / k + 1 := by
        have := Nat.add_div_right (t - k) h0
        rwa [Nat.sub_add_cancel (by omega)] at this
      have h2 : t % k = (t - k) % k := Nat.mod_eq_sub_mod (by omega)
      rw [List.getElem?_append_right (by rw [hk]; omega), hk, flatK_get enc k h0 hk l (t - k), h1, h2]; rfl
theorem flatK_len {α : Type} (enc : α → List Value) (k : Nat) (hk : ∀ x, (enc x).length = k) : ∀ l : List α, (l.flatMap enc).length = l.length * k
  | [] => by simp
  | x :: l => by rw [List.flatMap_cons, List.length_append, hk, flatK_len enc k hk l, List.length_cons, Nat.add_mul]; omega
theorem flatK_list {α : Type} [Inhabited α] (enc : α → List Value) (k : Nat) (h0 : 0 < k) (hk : ∀ x, (enc x).length = k) (l : List α) : (flatK enc k l.toArray).toList = l.flatMap enc := by
  apply List.ext_getElem?
  intro t
  rw [flatK_get enc k h0 hk]
  by_cases ht : t < l.length * k
  · have hd : t / k < l.length := Nat.div_lt_of_lt_mul (by rw [Nat.mul_comm]; exact ht)
    have hm : t % k < (enc l[t / k]).length := by rw [hk]; exact Nat.mod_lt _ h0
    have hf := get_flatK enc k l.toArray t (by simpa using ht)
    have hsz : t < (flatK enc k l.toArray).size := by rw [size_flatK]; simpa using ht
    rw [getElem!_pos _ t hsz] at hf
    rw [Array.getElem?_toList, Array.getElem?_eq_getElem hsz, hf, List.getElem?_eq_getElem hd]
    have hg : l.toArray[t / k]! = l[t / k] := by rw [getElem!_pos _ _ (by simpa using hd)]; simp
    rw [hg, Option.bind_some, List.getElem?_eq_getElem hm, getElem!_pos (enc l[t / k]) (t % k) hm]
  · have hd : l.length ≤ t / k := (Nat.le_div_iff_mul_le h0).2 (by omega)
    rw [List.getElem?_eq_none (by simpa using (by omega : l.length * k ≤ t)), List.getElem?_eq_none hd]; rfl
def aggs {α : Type} (enc : α → List Value) (l : List α) : List AV := l.map fun x => .agg ((enc x).map .v)
theorem flat_aggs {α : Type} (enc : α → List Value) (l : List α) : (aggs enc l).flatMap AV.cells = (l.flatMap enc).map .v := by
  induction l with
  | nil => rfl
  | cons x l ih =>
    unfold aggs at ih ⊢
    rw [List.map_cons, List.flatMap_cons, List.flatMap_cons, List.map_append, ih]; rfl

section
variable {G : Ctx} {st : St} {E : Env} {a : Act}
theorem fn_val {f : FuncId} {x : Value} (h : VR E (.fn (.func f) [] []) x) : x = .func (.func f) #[] #[] := by
  cases h with
  | fn _ _ _ us vs h1 h2 _ _ =>
    have e1 : us = #[] := by apply Array.eq_empty_of_size_eq_zero; simpa using h1.symm
    have e2 : vs = #[] := by apply Array.eq_empty_of_size_eq_zero; simpa using h2.symm
    rw [e1, e2]

/-- slices.SortFunc at structs, where the comparison parts whatever two elements are not one. -/
theorem CallSem.sortK {α : Type} [Inhabited α] {ρ : Ren} {id kk e k g : Nat} {l : List α} {dst : Option Tmp} {K : St → Prop} (L : SlLaysF0.n6 G.P ρ) (hfn : ∃ fn, G.P.funcs[ρ.f 6]? = some fn ∧ fn.body.isSome = true ∧ (fn.name == "runtime.NumGoroutine") = false)
    (aE : ∀ w, (isAgg (ρ.t 24)).run G.P w = .ok true w) (zE : ∀ w, (Go.sizeOf (ρ.t 24)).run G.P w = .ok k w) (enc : α → List Value) (h0 : 0 < k) (hke : ∀ x, (enc x).length = k) (h1 : ∀ x, ∀ v ∈ enc x, v.oneCell' = true) (cf : α → α → Int) (hO : SWO (ltOf cf))
    (hT : ∀ x y, (ltOf cf) x y = false → (ltOf cf) y x = false → x = y) (eg : ∀ args w, (callFunc g args).run G.P w = .ok (.enter g args) w)
    (hcmp : ∀ (x y : α) (W : World), Calls G.P g #[.agg (enc x).toArray, .agg (enc y).toArray] W fun e w' => e = .returned (.int .i64 (cf x y)) ∧ ∃ q os', w' = grow (W.drewN q) os')
    (hk : kk = st.ver id) (hh : st.h id = .arr e k (aggs enc l)) (hd : dstOK G.n dst) (hsz : l.length < 4611686018427387904)
    (hK : K ((st.setH id (.arr e k (aggs enc (l.mergeSort fun x y => !(ltOf cf) y x)))).put dst (.tup []))) : CallSem G (ρ.f 6) [.ref id kk, .fn (.func g) [] []] dst K st := by
  refine ⟨hfn, fun E a vs hr hl hv => ?_⟩
  have hs : vs = #[(E.own id).val, .func (.func g) #[] #[]] := by
    have h0 := hv 0 _ rfl
    have h1 := fn_val (hv 1 _ rfl)
    have h0' : vs.getD 0 undef = (E.own id).val := by cases h0 with | ref _ _ _ h1 h2 => exact h2 (by rw [hr.ver]; exact hk)
    have hs1 : vs.size = 2 := hl
    apply Array.ext
    · simpa using hl
    · intro i h3 h4
      have : i = 0 ∨ i = 1 := by omega
      rcases this with rfl | rfl
      · simpa [Array.getD_eq_getD_getElem?, hs1] using h0'
      · simpa [Array.getD_eq_getD_getElem?, hs1] using h1
  have hxs := flat_aggs enc l
  have hys := flat_aggs enc (l.mergeSort fun x y => !(ltOf cf) y x)
  have hlen1 : ∀ y ∈ aggs enc (l.mergeSort fun x y => !(ltOf cf) y x), y.cells.length = k := by
    intro y hy
    obtain ⟨x, _, rfl⟩ := List.mem_map.1 hy
    show ((enc x).map AV.v).length = k
    rw [List.length_map, hke]
  obtain ⟨hvl, hrow⟩ := hr.arrRow hh hxs
  have hve : E.ver id = st.ver id := by rw [hr.ver]
  rw [hs]
  have hll : (aggs enc l).length = l.length := by simp [aggs]
  rcases hrow with ⟨hnil, hx⟩ | ⟨gb, cap, cur, hval, hg, hheap, hn, hc, hcs, ht⟩
  · have hl0 : l = [] := by simpa [aggs] using hx
    subst hl0
    rw [hnil]
    refine (AnyF.slices_SortFunc_none L none 0 _ E.w).mono ?_
    rintro en w' ⟨rfl, rfl⟩
    refine ⟨_, rfl, _, E, rfl, Rel.put (r := .tup []) ?_ (.tup [] #[] rfl (by simp)) (fun d he => by rw [he] at hd; exact hd), hK⟩
    have : st.setH id (.arr e k (aggs enc (([] : List α).mergeSort fun x y => !(ltOf cf) y x))) = st := by
      simp only [St.setH, List.mergeSort_nil]
      rw [← hh, upd_self]
    rw [this]; exact hr
  · rw [hll] at hval hn
    simp only [hll] at ht hcs
    rw [hval]
    have hfl := flatK_list enc k h0 hke l
    have hfs : (flatK enc k l.toArray).size = l.length * k := by rw [size_flatK]; simp
    have hsz' : (flatK enc k l.toArray).size ≤ cur.size := by rw [hfs]; exact Nat.le_trans (Nat.mul_le_mul_right _ hn) hcs
    have hblt : gb < E.w.heap.size := (Array.getElem?_eq_some_iff.1 hheap).1
    have hH : HoldsK enc k E.w gb 0 l.toArray := holds_of (fun v : Value => v) hheap (flatK enc k l.toArray) hsz' (by rw [hfs, hfl]; simpa using ht)
    have hcall := AnyQ.slices_SortFunc_total L k aE zE enc hke h1 cf hO g #[] gb 0 cap l.toArray E.w eg (fun m os dk _ x y => hcmp x y _) hH hblt (by simpa using hsz) hT
    refine (Calls.mono (by simpa using hcall) ?_)
    rintro en w' ⟨rfl, n, os, rfl⟩
    have hml : (l.mergeSort fun x y => !(ltOf cf) y x).length = l.length := List.length_mergeSort _
    generalize l.mergeSort (fun x y => !(ltOf cf) y x) = l2 at hml hlen1 hys hK ⊢
    have hfl2 := flatK_list enc k h0 hke l2
    have hfs2 : (flatK enc k l2.toArray).size = l2.length * k := by rw [size_flatK]; simp
    obtain ⟨hgb, hb'⟩ := rowWorld (fun v : Value => v) hheap (flatK enc k l2.toArray) n os
    obtain ⟨E', hw, hver, hval', hrel⟩ := hr.rewrite (v' := (E.own id).val) hh (by rw [hval]; exact hgb) hlen1 hys (by
      rw [hval]
      refine ⟨by rw [flatK_len enc k hke]; simp [aggs], .inr ⟨gb, cap, _, by simp [aggs, hml], hg, hb', by simpa [aggs, hml] using hn, hc, ?_, ?_⟩⟩
      · rw [putCells_size]; exact hcs
      · have hlk : (aggs enc l2).length * k = (flatK enc k l2.toArray).size := by rw [hfs2]; simp [aggs]
        rw [hlk, putCells_take _ _ _ (by rw [hfs2, hml]; exact Nat.le_trans (Nat.mul_le_mul_right _ hn) hcs) _ (Nat.le_refl _), hfl2]
        rw [hfs2, ← List.map_take, List.take_of_length_le (by rw [flatK_len enc k hke]; exact Nat.le_refl _)]
        simp) (fun _ h => h) (E.ver id) (Nat.le_refl _) (fun _ => rfl)
    refine ⟨_, rfl, _, E', hw, Rel.put (r := .tup []) ?_ (.tup [] #[] rfl (by simp)) (fun d he => by rw [he] at hd; exact hd), hK⟩
    have : ({ st with ver := upd st.ver id (E.ver id), h := upd st.h id (.arr e k (aggs enc l2)) } : St) = st.setH id (.arr e k (aggs enc l2)) := by
      simp only [St.setH, hve, upd_self]
    rw [← this]; exact hrel
end
end Go.Abs
