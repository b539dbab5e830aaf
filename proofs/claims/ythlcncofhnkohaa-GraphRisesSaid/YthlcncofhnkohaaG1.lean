/- Contracts of chapter 09: index, Closed. No condition. -/
import Derived.Test.YthlcncofhnkohaaE1
import Derived.Test.YthlcncofhnkohaaN2
namespace Go.Proofs.Ythlcncofhnkohaa
open Go Go.Abs
set_option linter.unusedSimpArgs false
/-- The map of the first places of the ids, from a place on. -/
def idxFrom : List Evt → Nat → Array MapEntry × Nat
  | [], _ => (#[], 0)
  | e :: l, i => mput (idxFrom l (i + 1)).1 (idxFrom l (i + 1)).2 e.id (.int .i64 i)
theorem idxFrom_int : ∀ (l : List Evt) (i : Nat), intM (idxFrom l i).1 = true
  | [], _ => rfl
  | e :: l, i => q_mput_int _ _ _ _ (idxFrom_int l (i + 1))
theorem idxFrom_get (n : Int) : ∀ (l : List Evt) (i : Nat), mget (idxFrom l i).1 n = (l.findIdx? fun e => e.id == n).map fun k => .int .i64 ((i + k : Nat) : Int)
  | [], _ => rfl
  | e :: l, i => by
    show mget (mput _ _ _ _).1 n = _
    rw [q_mput_get, List.findIdx?_cons, idxFrom_get n l (i + 1)]
    by_cases h : e.id = n
    · simp [h]
    · simp [h, Function.comp_def, Nat.add_comm, Nat.add_left_comm]
def idxM (l : List Evt) : Array MapEntry := (idxFrom l 0).1
def idxC (l : List Evt) : Nat := (idxFrom l 0).2
def idxAV (l : List Evt) : AV := .mapv (idxM l) (idxC l)
theorem idxM_int (l : List Evt) : intM (idxM l) = true := idxFrom_int l 0
theorem pure_idx (l : List Evt) : Pure (idxAV l) := pure_mapv _ _
theorem idx_get (l : List Evt) (n : Int) : (getE l n = none ∧ mget (idxM l) n = none) ∨ ∃ k, ∃ hk : k < l.length, getE l n = some l[k] ∧ mget (idxM l) n = some (.int .i64 k) := by
  have h := idxFrom_get n l 0
  unfold idxM getE
  rw [h]
  cases hf : l.findIdx? fun e => e.id == n with
  | none =>
    left
    rw [List.findIdx?_eq_none_iff] at hf
    refine ⟨?_, rfl⟩
    rw [List.find?_eq_none]
    intro e he; simpa using hf e he
  | some k =>
    right
    rw [List.findIdx?_eq_some_iff_getElem] at hf
    obtain ⟨hk, h1, h2⟩ := hf
    refine ⟨k, hk, ?_, by simp⟩
    rw [List.find?_eq_some_iff_getElem]
    exact ⟨h1, k, hk, rfl, fun j hj => by simpa using h2 j hj⟩
theorem idx_some (l : List Evt) (n : Int) : (mget (idxM l) n).isSome = (getE l n).isSome := by
  rcases idx_get l n with ⟨h1, h2⟩ | ⟨k, hk, h1, h2⟩ <;> rw [h1, h2] <;> rfl
attribute [go_sem] idxAV idxM_int
set_option maxRecDepth 8000 in
set_option maxHeartbeats 4000000 in
theorem index_ac (l : List Evt) : AC Try.prog 36 [evs l] (idxAV l) := by
  refine AC.of_body Try.func36 rfl rfl Try.ntmps36 (congrArg Array.toList Try.results36) (by simp) (pures1 (pure_evs _)) (pure_idx _) fun w S' => AWp.bound 0 rfl fun hlen => AWp.of_vc [] ?_
  rw [evs_len] at hlen
  simp [go_sem]
  refine AWp.loop_vc [] (fun m s => ∃ q v : Nat, q ≤ l.length ∧ m = q ∧ s.σ 0 = evs l ∧ s.σ 4 = I ((q : Int) - 1) ∧ s.σ 3 = .ref 7 v ∧ s.ver 7 = v ∧ s.h 7 = .map (idxFrom (l.drop q) q).1 (idxFrom (l.drop q) q).2) l.length ⟨l.length, 1, by simp [go_sem, wrap_pred hlen, idxFrom]⟩ ?_
  rintro m s ⟨q, v, hq, hmq, h0, h4, h3, hv, hh⟩
  cases q with
  | zero =>
    have h4' : s.σ 4 = I (-1) := by rw [h4]; rfl
    simp [go_sem, h0, h4', h3, hv, hh]
    refine PostR.retW [7] ?_ (.refl _)
    simp [go_sem, h3, hv, hh, idxAV, idxM, idxC]
  | succ q =>
    have h4' : s.σ 4 = I (q : Int) := by rw [h4]; congr 2; omega
    have hd : idxFrom (l.drop q) q = mput (idxFrom (l.drop (q + 1)) (q + 1)).1 (idxFrom (l.drop (q + 1)) (q + 1)).2 l[q].id (.int .i64 q) := by
      rw [List.drop_eq_getElem_cons (by omega : q < l.length)]; rfl
    have hi := idxFrom_int (l.drop (q + 1)) (q + 1)
    have hlt : q < l.length := by omega
    have hw : IntKind.i64.wrap ((q : Int) - 1) = (q : Int) - 1 := wrap_pred (by omega)
    simp [go_sem, h0, h4', h3, hv, hh, hi, hlt, hw]
    exact ⟨q, by omega, q, by omega, rfl, rfl, by rw [hd]; exact ⟨rfl, rfl⟩⟩
def knownB (l : List Evt) (n : Int) : Bool := (getE l n).isSome
def allKnown (l : List Evt) (r : List Int) : Bool := r.all (knownB l)
def closedOf (l : List Evt) : Bool := l.all fun e => allKnown l e.prev && allKnown l e.auth
theorem all_take {α : Type} {p : α → Bool} {l : List α} {k : Nat} (h : k < l.length) : (l.take (k + 1)).all p = ((l.take k).all p && p l[k]) := by
  rw [List.take_succ_eq_append_getElem h, List.all_append]; simp
theorem all_miss {α : Type} {p : α → Bool} {l : List α} {k : Nat} (h : k < l.length) (hp : p l[k] = false) : l.all p = false := List.all_eq_false.2 ⟨l[k], List.getElem_mem h, by simp [hp]⟩
/-- Are the elements ahead of a place all so? -/
def AllUp {α : Type} (p : α → Bool) (l : List α) (k : Nat) : Prop := (l.take k).all p = true
theorem AllUp.zero {α : Type} (p : α → Bool) (l : List α) : AllUp p l 0 := rfl
theorem AllUp.succ {α : Type} {p : α → Bool} {l : List α} {k : Nat} (h : k < l.length) (h1 : AllUp p l k) (hp : p l[k] = true) : AllUp p l (k + 1) := by
  unfold AllUp at *; rw [all_take h, h1, hp]; rfl
theorem AllUp.full {α : Type} {p : α → Bool} {l : List α} {k : Nat} (h : ¬ k < l.length) (h1 : AllUp p l k) : l.all p = true := by
  unfold AllUp at *; rw [List.take_of_length_le (by omega)] at h1; exact h1
theorem pure_idxP (l : List Evt) : Pure (.eptr [idxAV l] 0) := pure_eptr fun c h => by simp only [List.mem_singleton] at h; subst h; exact pure_idx _
set_option maxRecDepth 8000 in
set_option maxHeartbeats 4000000 in
theorem closedC_ac (l : List Evt) (r : List Int) : AC Try.prog 37 [ints r, .eptr [idxAV l] 0] (B (allKnown l r)) := by
  refine AC.of_body Try.func37 rfl rfl Try.ntmps37 (congrArg Array.toList Try.results37) (by simp) (pures2 (pure_ints _) (pure_idxP _)) (pure_B _) fun w S' => AWp.bound 0 rfl fun hlen => AWp.of_vc [] ?_
  rw [ints_len] at hlen
  simp [go_sem]
  refine AWp.loop_vc [] (fun m s => ∃ k : Nat, k ≤ r.length ∧ m = r.length - k ∧ s.σ 8 = ints r ∧ s.σ 1 = .eptr [idxAV l] 0 ∧ s.σ 9 = I r.length ∧ s.σ 10 = I k ∧ AllUp (knownB l) r k) r.length ⟨0, by simp [go_sem, AllUp.zero]⟩ ?_
  rintro m s ⟨k, hk, rfl, h8, h1, h9, h10, hno⟩
  by_cases hlt : k < r.length
  · rcases idx_get l r[k] with ⟨hg, hm⟩ | ⟨j, hj, hg, hm⟩
    · have hb : allKnown l r = false := all_miss hlt (by unfold knownB; rw [hg]; rfl)
      simp [go_sem, h8, h1, h9, h10, hlt, hm]
      refine PostR.ret ?_
      simp [go_sem, hb]
    · have hkn : knownB l r[k] = true := by unfold knownB; rw [hg]; rfl
      simp [go_sem, h8, h1, h9, h10, hlt, hm, wrap_succ hlt hlen]
      exact ⟨r.length - (k + 1), by omega, k + 1, by omega, rfl, rfl, hno.succ hlt hkn⟩
  · have hb : allKnown l r = true := hno.full hlt
    simp [go_sem, h8, h1, h9, h10, hlt]
    refine PostR.ret ?_
    simp [go_sem, hb]
set_option maxRecDepth 8000 in
set_option maxHeartbeats 4000000 in
theorem closed_ac (l : List Evt) : AC Try.prog 12 [evs l] (B (closedOf l)) := by
  refine AC.of_body Try.func12 rfl rfl Try.ntmps12 (congrArg Array.toList Try.results12) (by simp) (pures1 (pure_evs _)) (pure_B _) fun w S' => AWp.bound 0 rfl fun hlen => AWp.of_vc [] ?_
  rw [evs_len] at hlen
  simp [go_sem]
  refine CallSem.pure (index_ac l) (by simp [go_sem]) ?_
  simp [go_sem]
  refine AWp.freeze 3 ?_
  refine AWp.loop_vc [] (fun m s => ∃ k : Nat, k ≤ l.length ∧ m = l.length - k ∧ s.σ 0 = evs l ∧ s.σ 4 = .fn (.func 37) [] [.eptr [idxAV l] 0] ∧ s.σ 10 = I l.length ∧ s.σ 11 = I k ∧ AllUp (fun e => allKnown l e.prev && allKnown l e.auth) l k) l.length ⟨0, by simp [go_sem, AllUp.zero]⟩ ?_
  rintro m s ⟨k, hk, rfl, h0, h4, h10, h11, hno⟩
  by_cases hlt : k < l.length
  · simp [go_sem, h0, h4, h10, h11, hlt]
    refine CallSem.pure (closedC_ac l l[k].prev) (by simp [go_sem]) ?_
    cases hp : allKnown l l[k].prev with
    | false =>
      have hb : closedOf l = false := all_miss hlt (by rw [hp]; rfl)
      simp [go_sem, h0, h4, h10, h11, hlt]
      refine PostR.ret ?_
      simp [go_sem, hb]
    | true =>
      simp [go_sem, h0, h4, h10, h11, hlt]
      refine CallSem.pure (closedC_ac l l[k].auth) (by simp [go_sem]) ?_
      cases hq : allKnown l l[k].auth with
      | false =>
        have hb : closedOf l = false := all_miss hlt (by rw [hp, hq]; rfl)
        simp [go_sem, h0, h4, h10, h11, hlt]
        refine PostR.ret ?_
        simp [go_sem, hb]
      | true =>
        simp [go_sem, h0, h4, h10, h11, hlt, wrap_succ hlt hlen]
        exact ⟨l.length - (k + 1), by omega, k + 1, by omega, rfl, rfl, hno.succ hlt (by rw [hp, hq]; rfl)⟩
  · have hb : closedOf l = true := hno.full hlt
    simp [go_sem, h0, h4, h10, h11, hlt]
    refine PostR.ret ?_
    simp [go_sem, hb]
end Go.Proofs.Ythlcncofhnkohaa
