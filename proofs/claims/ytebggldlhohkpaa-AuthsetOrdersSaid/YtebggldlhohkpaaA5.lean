/- Contracts of chapter 15: the place of a key, what the reference looks up. No condition. -/
import Derived.Test.YtebggldlhohkpaaA4
namespace Go.Proofs.Ytebggldlhohkpaa
open Go Go.Abs
set_option linter.unusedSimpArgs false
def isIn (L : List EntD) (k : Int) (key : Bytes) : Bool := L.any (isKey k key)
def fitsKey (e : Evt) (k : EntD) : Bool := e.kind == k.kind && e.key == k.key
set_option maxRecDepth 8000 in
set_option maxHeartbeats 4000000 in
theorem place_ac (L : List EntD) (e : Evt) : AC Try.prog 36 [kps L, ev e] (I (idxI (fitsKey e) L)) := by
  refine AC.of_body Try.func36 rfl rfl Try.ntmps36 (congrArg Array.toList Try.results36) (by simp) (pures2 (pure_kps _) (pure_ev _)) (pure_I _) fun w S' => AWp.bound 0 rfl fun hlen => AWp.of_vc [] ?_
  rw [kps_len] at hlen
  simp [go_sem]
  refine AWp.loop_vc [] (fun m s => ∃ q : Nat, q ≤ L.length ∧ m = L.length - q ∧ s.σ 3 = .eptr (evc e) 0 ∧ s.σ 5 = .fn (.func 40) [] [] ∧ s.σ 8 = kps L ∧ s.σ 9 = I L.length ∧ s.σ 10 = I q ∧ ∀ (j : Nat) x, j < q → L[j]? = some x → fitsKey e x = false) L.length ⟨0, by simp [go_sem]⟩ ?_
  rintro m s ⟨q, hq, rfl, h3, h5, h8, h9, h10, hno⟩
  by_cases hlt : q < L.length
  · simp [go_sem, h3, h5, h8, h9, h10, hlt]
    refine CallSem.pure (in_ac L[q] e) (by simp [go_sem]) ?_
    have hfk : (e.kind == L[q].kind && e.key == L[q].key) = fitsKey e L[q] := rfl
    rw [hfk]
    cases hp : fitsKey e L[q] with
    | true =>
      simp [go_sem, h3, h5, h8, h9, h10, hlt]
      refine PostR.ret ?_
      simp [go_sem, idxI_hit hlt hp hno]
    | false =>
      simp [go_sem, h3, h5, h8, h9, h10, hlt, wrap_succ hlt hlen]
      exact ⟨L.length - (q + 1), by omega, q + 1, by omega, rfl, rfl, below_step hlt hno hp⟩
  · simp [go_sem, h3, h5, h8, h9, h10, hlt]
    refine PostR.ret ?_
    have : idxI (fitsKey e) L = -1 := idxI_miss fun j x hx => hno j x (by have := (List.getElem?_eq_some_iff.1 hx).1; omega) hx
    simp [go_sem, this]

set_option maxRecDepth 8000 in
set_option maxHeartbeats 4000000 in
theorem is_ac (L : List EntD) (k : Int) (key : Bytes) : AC Try.prog 28 [ents L, I k, S key] (B (isIn L k key)) := by
  refine AC.of_body Try.func28 rfl rfl Try.ntmps28 (congrArg Array.toList Try.results28) (by simp) (pures3 (pure_ents _) (pure_I _) (pure_S _)) (pure_B _) fun w S' => AWp.bound 0 rfl fun hlen => AWp.of_vc [] ?_
  rw [ents_len] at hlen
  simp [go_sem]
  refine AWp.loop_vc [] (fun m s => ∃ q : Nat, q ≤ L.length ∧ m = L.length - q ∧ s.σ 0 = ents L ∧ s.σ 1 = I k ∧ s.σ 2 = S key ∧ s.σ 7 = I q ∧ ∀ (j : Nat) x, j < q → L[j]? = some x → isKey k key x = false) L.length ⟨0, by simp [go_sem]⟩ ?_
  rintro m s ⟨q, hq, rfl, h0, h1, h2, h7, hno⟩
  by_cases hlt : q < L.length
  · cases hp : isKey k key L[q] with
    | true =>
      have hq2 := isKey_iff.1 hp
      have hy : isIn L k key = true := List.any_eq_true.2 ⟨L[q], List.getElem_mem hlt, hp⟩
      simp [go_sem, h0, h1, h2, h7, hlt, hq2.1, hq2.2]
      refine PostR.ret ?_
      simp [go_sem, hy]
    | false =>
      by_cases hk : L[q].kind = k
      · have hkey : ¬ L[q].key = key := fun h => by rw [isKey_iff.2 ⟨hk, h⟩] at hp; cases hp
        simp [go_sem, h0, h1, h2, h7, hlt, hk, hkey, wrap_succ hlt hlen]
        exact ⟨L.length - (q + 1), by omega, q + 1, by omega, rfl, rfl, below_step hlt hno hp⟩
      · simp [go_sem, h0, h1, h2, h7, hlt, hk, wrap_succ hlt hlen]
        exact ⟨L.length - (q + 1), by omega, q + 1, by omega, rfl, rfl, below_step hlt hno hp⟩
  · have hy : isIn L k key = false := List.any_eq_false.2 fun x hx => by
      obtain ⟨j, hj, rfl⟩ := List.mem_iff_getElem.1 hx
      simp [hno j _ (by omega) (List.getElem?_eq_getElem hj)]
    simp [go_sem, h0, h1, h2, h7, hlt]
    refine PostR.ret ?_
    simp [go_sem, hy]

theorem pureR_evsA (l : List Evt) : PureR (evs l) := pure_evs l
def ofIds (l : List Evt) (ids : List Int) : List Evt := ids.filterMap (getE l)
theorem ofIds_succ {l : List Evt} {ids : List Int} {q : Nat} (h : q < ids.length) : ofIds l (ids.take (q + 1)) = ofIds l (ids.take q) ++ (getE l ids[q]).toList := by
  unfold ofIds
  rw [List.take_succ_eq_append_getElem h, List.filterMap_append]
  simp only [List.filterMap_cons, List.filterMap_nil]
  cases getE l ids[q] <;> rfl
theorem ofIds_len (l : List Evt) (ids : List Int) : (ofIds l ids).length ≤ ids.length := List.length_filterMap_le _ _
set_option maxRecDepth 8000 in
set_option maxHeartbeats 4000000 in
theorem rofE_ac (l : List Evt) (ids : List Int) (hsz : ids.length ≤ 100000) : AC Try.prog 38 [evs l, ints ids] (evs (ofIds l ids)) := by
  refine AC.of_body Try.func38 rfl rfl Try.ntmps38 (congrArg Array.toList Try.results38) (by simp) (pures2 (pure_evs _) (pure_ints _)) (pureR_evsA _) fun w S' => AWp.of_vc [] ?_
  have hm : ids.length ≤ maxLen := by unfold maxLen; omega
  simp [go_sem]
  refine AWp.ownNil 5 34 29 (by simp [go_sem]) ?_
  refine AWp.loop_vc [] (fun m s => ∃ q v : Nat, q ≤ ids.length ∧ m = ids.length - q ∧ s.σ 0 = evs l ∧ s.σ 1 = ints ids ∧ s.σ 6 = I q ∧ s.σ 5 = .ref 5 v ∧ s.ver 5 = v ∧ s.h 5 = .arr 34 29 ((ofIds l (ids.take q)).map ev)) ids.length ⟨0, 1, by simp [go_sem, ofIds]⟩ ?_
  rintro m s ⟨q, v, hq, rfl, h0, h1, h6, h5, hv5, hh5⟩
  have hol := ofIds_len l (ids.take q)
  rw [List.length_take] at hol
  by_cases hlt : q < ids.length
  · have hsu := ofIds_succ (l := l) hlt
    simp [go_sem, h0, h1, h6, h5, hv5, hh5, hlt]
    refine CallSem.pure (rgetE_ac l ids[q]) (by simp [go_sem]) ?_
    cases hg : getE l ids[q] with
    | none =>
      rw [hg] at hsu
      simp [go_sem, h0, h1, h6, h5, hv5, hh5, hlt, wrap_succ hlt hm]
      exact ⟨ids.length - (q + 1), by omega, q + 1, by omega, rfl, rfl, by rw [hsu]; simp⟩
    | some x =>
      rw [hg] at hsu
      simp [go_sem, h0, h1, h6, h5, hv5, hh5, hlt, wrap_succ hlt hm]
      refine ⟨⟨by omega, by omega⟩, ids.length - (q + 1), by omega, q + 1, by omega, rfl, rfl, by rw [hsu]; simp [ev, evc]⟩
  · rw [List.take_of_length_le (by omega)] at hh5
    simp [go_sem, h0, h1, h6, h5, hv5, hh5, hlt]
    refine PostR.retW [5] ?_ (.refl _)
    simp [go_sem, h5, hv5, hh5]

set_option maxRecDepth 8000 in
set_option maxHeartbeats 4000000 in
theorem rids_ac (l : List Evt) (hsz : l.length ≤ 100000) : AC Try.prog 26 [evs l] (ints (l.map (·.id))) := by
  refine AC.of_body Try.func26 rfl rfl Try.ntmps26 (congrArg Array.toList Try.results26) (by simp) (pures1 (pure_evs _)) (pureR_ints _) fun w S' => AWp.of_vc [] ?_
  have hm : l.length ≤ maxLen := by unfold maxLen; omega
  simp [go_sem]
  refine AWp.ownNil 3 3 1 (by simp [go_sem]) ?_
  refine AWp.loop_vc [] (fun m s => ∃ q v : Nat, q ≤ l.length ∧ m = l.length - q ∧ s.σ 0 = evs l ∧ s.σ 4 = I q ∧ s.σ 3 = .ref 3 v ∧ s.ver 3 = v ∧ s.h 3 = .arr 3 1 ((l.take q).map fun e => I e.id)) l.length ⟨0, 1, by simp [go_sem]⟩ ?_
  rintro m s ⟨q, v, hq, rfl, h0, h4, h3, hv3, hh3⟩
  by_cases hlt : q < l.length
  · simp [go_sem, h0, h4, h3, hv3, hh3, hlt, wrap_succ hlt hm]
    refine ⟨⟨by omega, by omega⟩, l.length - (q + 1), by omega, q + 1, by omega, rfl, rfl, ?_⟩
    rw [← List.map_take, ← List.map_take, List.take_succ_eq_append_getElem hlt]
    simp only [List.map_append, List.map_cons, List.map_nil]
  · rw [List.take_of_length_le (by omega)] at hh3
    simp [go_sem, h0, h4, h3, hv3, hh3, hlt]
    refine PostR.retW [3] ?_ (.refl _)
    simp [go_sem, h3, hv3, hh3]

end Go.Proofs.Ytebggldlhohkpaa
