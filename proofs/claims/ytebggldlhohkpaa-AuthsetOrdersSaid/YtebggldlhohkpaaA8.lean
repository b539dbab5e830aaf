/- Contracts of chapter 15: both Froms. No condition. -/
import Derived.Test.YtebggldlhohkpaaA7
namespace Go.Proofs.Ytebggldlhohkpaa
open Go Go.Abs
set_option linter.unusedSimpArgs false
def fromK (A : List Evt) (k : EntD) : Option Evt := A.find? fun x => fitsKey x k
def froms (A : List Evt) (K : List EntD) : List Evt := K.filterMap (fromK A)
def fromOf (l : List Evt) (e : Evt) : List Evt := froms (ofIds l e.auth) (keysOf e)
theorem froms_succ {A : List Evt} {L : List EntD} {q : Nat} (h : q < L.length) : froms A (L.take (q + 1)) = froms A (L.take q) ++ (fromK A L[q]).toList := by
  unfold froms
  rw [List.take_succ_eq_append_getElem h, List.filterMap_append]
  simp only [List.filterMap_cons, List.filterMap_nil]
  cases fromK A L[q] <;> rfl
theorem froms_len (A : List Evt) (L : List EntD) : (froms A L).length ≤ L.length := List.length_filterMap_le _ _
theorem fromK_snoc (A : List Evt) (x : Evt) (k : EntD) (h : fromK A k = none) : fromK (A ++ [x]) k = if fitsKey x k = true then some x else none := by
  unfold fromK at h ⊢
  rw [List.find?_append, h]
  cases hp : fitsKey x k <;> simp [hp]
theorem fromK_app (A B : List Evt) (x : Evt) (k : EntD) (h : fromK A k = some x) : fromK (A ++ B) k = some x := by
  unfold fromK at h ⊢
  rw [List.find?_append, h]; rfl
theorem ofIds_split (l : List Evt) (ids : List Int) (q : Nat) : ofIds l ids = ofIds l (ids.take q) ++ ofIds l (ids.drop q) := by
  unfold ofIds
  rw [← List.filterMap_append, List.take_append_drop]
set_option maxRecDepth 8000 in
set_option maxHeartbeats 4000000 in
theorem from_ac (l : List Evt) (e : Evt) (hsz : e.auth.length ≤ 100000) : AC Try.prog 22 [evs l, ev e] (evs (fromOf l e)) := by
  refine AC.of_body Try.func22 rfl rfl Try.ntmps22 (congrArg Array.toList Try.results22) (by simp) (pures2 (pure_evs _) (pure_ev _)) (pureR_evsA _) fun w S' => AWp.of_vc [] ?_
  have hma : e.auth.length ≤ maxLen := by unfold maxLen; omega
  have hle := keysOf_len e
  have hm : (keysOf e).length ≤ maxLen := by unfold maxLen; omega
  unfold fromOf
  generalize hL : keysOf e = L at hle hm ⊢
  generalize hA : ofIds l e.auth = A
  simp [go_sem]
  refine CallSem.pure (keysP_ac e) (by simp [go_sem]) ?_
  rw [hL]
  simp [go_sem]
  refine AWp.ownNil 6 34 29 (by simp [go_sem]) ?_
  refine AWp.loop_vc [] (fun m s' => ∃ q v : Nat, q ≤ L.length ∧ m = L.length - q ∧ s'.σ 0 = evs l ∧ s'.σ 3 = .eptr (evc e) 0 ∧ s'.σ 5 = .fn (.func 40) [] [] ∧ s'.σ 14 = kps L ∧ s'.σ 15 = I L.length ∧ s'.σ 16 = I q ∧ s'.σ 6 = .ref 6 v ∧ s'.ver 6 = v ∧ s'.h 6 = .arr 34 29 ((froms A (L.take q)).map ev)) L.length ⟨0, 1, by simp [go_sem, froms]⟩ ?_
  rintro m s' ⟨q, v, hq, rfl, h0, h3, h5, h14, h15, h16, h6, hv6, hh6⟩
  by_cases hlt : q < L.length
  · simp [go_sem, h0, h3, h5, h14, h15, h16, h6, hv6, hh6, hlt, wrap_succ hlt hm]
    refine AWp.loop_vc [] (fun m s'' => ∃ j v8 : Nat, j ≤ e.auth.length ∧ m = e.auth.length - j ∧ s''.σ 0 = evs l ∧ s''.σ 3 = .eptr (evc e) 0 ∧ s''.σ 5 = .fn (.func 40) [] [] ∧ s''.σ 14 = kps L ∧ s''.σ 15 = I L.length ∧ s''.σ 16 = I q ∧ s''.σ 6 = .ref 6 v ∧ s''.ver 6 = v ∧ s''.h 6 = .arr 34 29 ((froms A (L.take q)).map ev) ∧ s''.σ 21 = ints e.auth ∧ s''.σ 22 = I e.auth.length ∧ s''.σ 23 = I j ∧ s''.σ 8 = .rptr 8 v8 0 0 ∧ s''.ver 8 = v8 ∧ s''.h 8 = .box (kenc L[q]) ∧ fromK (ofIds l (e.auth.take j)) L[q] = none) e.auth.length ⟨0, s'.ver 8 + 1, by simp [go_sem, h0, h3, h5, h14, h15, h16, h6, hv6, hh6, ofIds, fromK]⟩ ?_
    clear h0 h3 h5 h14 h15 h16 h6 hv6 hh6
    rintro m s'' ⟨j, v8, hj, rfl, h0, h3, h5, h14, h15, h16, h6, hv6, hh6, h21, h22, h23, h8, hv8, hh8, hno⟩
    have hhl := froms_len A (L.take q)
    rw [List.length_take] at hhl
    have hsu := froms_succ (A := A) hlt
    by_cases hjl : j < e.auth.length
    · have hou := ofIds_succ (l := l) hjl
      simp [go_sem, h0, h3, h5, h14, h15, h16, h6, hv6, hh6, h21, h22, h23, h8, hv8, hh8, hjl]
      refine CallSem.pure (sget_ac l e.auth[j]) (by simp [go_sem]) ?_
      cases hg : getE l e.auth[j] with
      | none =>
        rw [hg] at hou
        simp only [Option.toList_none, List.append_nil] at hou
        simp [go_sem, h0, h3, h5, h14, h15, h16, h6, hv6, hh6, h21, h22, h23, h8, hv8, hh8, hjl, wrap_succ hjl hma]
        exact ⟨e.auth.length - (j + 1), by omega, j + 1, by omega, rfl, rfl, by rw [hou]; exact hno⟩
      | some x =>
        rw [hg] at hou
        simp only [Option.toList_some] at hou
        have hsn := fromK_snoc _ x _ hno
        rw [← hou] at hsn
        simp [go_sem, h0, h3, h5, h14, h15, h16, h6, hv6, hh6, h21, h22, h23, h8, hv8, hh8, hjl]
        refine CallSem.pure (in_ac L[q] x) (by simp [go_sem, kp, ev, evc]) ?_
        cases hp : fitsKey x L[q] with
        | true =>
          have hp' := hp
          unfold fitsKey at hp'
          rw [hp] at hsn
          have hfk := fromK_app _ (ofIds l (e.auth.drop (j + 1))) x _ hsn
          rw [← ofIds_split, hA] at hfk
          rw [hfk] at hsu
          simp [go_sem, h0, h3, h5, h14, h15, h16, h6, hv6, hh6, h21, h22, h23, h8, hv8, hh8, hjl, hp', wrap_succ hlt hm]
          exact ⟨⟨by omega, by omega⟩, L.length - (q + 1), by omega, q + 1, by omega, rfl, rfl, by rw [hsu]; simp [ev, evc]⟩
        | false =>
          have hp' := hp
          unfold fitsKey at hp'
          rw [hp] at hsn
          simp [go_sem, h0, h3, h5, h14, h15, h16, h6, hv6, hh6, h21, h22, h23, h8, hv8, hh8, hjl, hp', wrap_succ hjl hma]
          exact ⟨e.auth.length - (j + 1), by omega, j + 1, by omega, rfl, rfl, hsn⟩
    · rw [List.take_of_length_le (by omega), hA] at hno
      rw [hno] at hsu
      simp [go_sem, h0, h3, h5, h14, h15, h16, h6, hv6, hh6, h21, h22, h23, h8, hv8, hh8, hjl, wrap_succ hlt hm]
      exact ⟨L.length - (q + 1), by omega, q + 1, by omega, rfl, rfl, by rw [hsu]; simp⟩
  · simp [go_sem, h0, h3, h5, h14, h15, h16, h6, hv6, hh6, hlt]
    rw [List.take_of_length_le (by omega)] at hh6
    refine PostR.retW [6] ?_ (.refl _)
    simp [go_sem, h6, hv6, hh6]

theorem fromK_some {A : List Evt} {k : EntD} {j : Nat} (hj : j < A.length) (hno : ∀ (i : Nat) x, i < j → A[i]? = some x → fitsKey x k = false) (hp : fitsKey A[j] k = true) : fromK A k = some A[j] := by
  unfold fromK
  exact List.find?_eq_some_iff_getElem.2 ⟨hp, j, hj, rfl, fun i hi => by simp [hno i _ hi (List.getElem?_eq_getElem (by omega))]⟩
theorem fromK_none {A : List Evt} {k : EntD} (hno : ∀ (i : Nat) x, i < A.length → A[i]? = some x → fitsKey x k = false) : fromK A k = none := by
  unfold fromK
  refine List.find?_eq_none.2 fun x hx => ?_
  obtain ⟨i, hi, rfl⟩ := List.mem_iff_getElem.1 hx
  simp [hno i _ hi (List.getElem?_eq_getElem hi)]
set_option maxRecDepth 8000 in
set_option maxHeartbeats 4000000 in
theorem rfrom_ac (l : List Evt) (e : Evt) (hsz : e.auth.length ≤ 100000) : AC Try.prog 23 [evs l, ev e] (evs (fromOf l e)) := by
  refine AC.of_body Try.func23 rfl rfl Try.ntmps23 (congrArg Array.toList Try.results23) (by simp) (pures2 (pure_evs _) (pure_ev _)) (pureR_evsA _) fun w S' => AWp.of_vc [] ?_
  have hle := keysOf_len e
  have hm : (keysOf e).length ≤ maxLen := by unfold maxLen; omega
  have hol := ofIds_len l e.auth
  unfold fromOf
  simp [go_sem]
  refine CallSem.pure (rkeys_ac e) (by simp [go_sem]) ?_
  simp [go_sem]
  refine CallSem.pure (rofE_ac l e.auth hsz) (by simp [go_sem]) ?_
  generalize hL : keysOf e = L at hle hm ⊢
  generalize hA : ofIds l e.auth = A at hol ⊢
  have hAm : A.length ≤ maxLen := by unfold maxLen; omega
  simp [go_sem]
  refine AWp.ownNil 7 34 29 (by simp [go_sem]) ?_
  refine AWp.loop_vc [] (fun m s' => ∃ q v : Nat, q ≤ L.length ∧ m = L.length - q ∧ s'.σ 5 = ents L ∧ s'.σ 6 = evs A ∧ s'.σ 8 = I q ∧ s'.σ 7 = .ref 7 v ∧ s'.ver 7 = v ∧ s'.h 7 = .arr 34 29 ((froms A (L.take q)).map ev)) L.length ⟨0, 1, by simp [go_sem, froms]⟩ ?_
  rintro m s' ⟨q, v, hq, rfl, h5, h6, h8, h7, hv7, hh7⟩
  by_cases hlt : q < L.length
  · simp [go_sem, h5, h6, h8, h7, hv7, hh7, hlt, wrap_succ hlt hm]
    have hhl := froms_len A (L.take q)
    rw [List.length_take] at hhl
    have hsu := froms_succ (A := A) hlt
    refine AWp.loop_vc [] (fun m s'' => ∃ (j v : Nat) (f : Bool), j ≤ A.length ∧ m = (if f = true then 0 else A.length - j + 1) ∧ s''.σ 5 = ents L ∧ s''.σ 6 = evs A ∧ s''.σ 8 = I q ∧ s''.σ 9 = B f ∧ s''.σ 10 = I j ∧ s''.σ 7 = .ref 7 v ∧ s''.ver 7 = v ∧
      s''.h 7 = .arr 34 29 ((if f = true then froms A (L.take (q + 1)) else froms A (L.take q)).map ev) ∧ (f = false → ∀ (i : Nat) x, i < j → A[i]? = some x → fitsKey x L[q] = false)) (A.length + 1) ⟨0, v, false, by simp [go_sem, h5, h6, h8, h7, hv7, hh7]⟩ ?_
    clear h5 h6 h8 h7 hv7 hh7
    rintro m s'' ⟨j, v, f, hj, rfl, h5, h6, h8, h9, h10, h7, hv7, hh7, hno⟩
    cases f with
    | true =>
      simp only [if_true] at hh7
      by_cases hjl : j < A.length
      · simp [go_sem, h5, h6, h7, hv7, hh7, h8, h9, h10, hjl, wrap_succ hlt hm]
        exact ⟨L.length - (q + 1), by omega, q + 1, by omega, rfl, rfl, rfl⟩
      · simp [go_sem, h5, h6, h7, hv7, hh7, h8, h9, h10, hjl, wrap_succ hlt hm]
        exact ⟨L.length - (q + 1), by omega, q + 1, by omega, rfl, rfl, rfl⟩
    | false =>
      simp only [Bool.false_eq_true, if_false] at hh7
      have hno := hno rfl
      by_cases hjl : j < A.length
      · simp [go_sem, h5, h6, h7, hv7, hh7, h8, h9, h10, hjl, wrap_succ hlt hm]
        refine AWp.drawAll rfl (by kernel_rfl) ?_
        simp [go_sem, h5, h6, h7, hv7, hh7, h8, h9, h10, hjl, hlt]
        cases hp : fitsKey A[j] L[q] with
        | true =>
          have hp' := hp
          unfold fitsKey at hp'
          simp only [Bool.and_eq_true, beq_iff_eq] at hp'
          rw [fromK_some hjl hno hp] at hsu
          simp [go_sem, h5, h6, h7, hv7, hh7, h8, h9, h10, hjl, hlt, hp'.1, hp'.2, wrap_succ hjl hAm]
          exact ⟨⟨by omega, by omega⟩, 0, by omega, j + 1, by omega, rfl, rfl, by rw [hsu]; simp [ev, evc]⟩
        | false =>
          by_cases hk : A[j].kind = L[q].kind
          · have hkey : ¬ A[j].key = L[q].key := fun h => by unfold fitsKey at hp; simp [hk, h] at hp
            simp [go_sem, h5, h6, h7, hv7, hh7, h8, h9, h10, hjl, hlt, hk, hkey, wrap_succ hjl hAm]
            exact ⟨A.length - (j + 1) + 1, by omega, j + 1, by omega, rfl, rfl, below_step hjl hno hp⟩
          · simp [go_sem, h5, h6, h7, hv7, hh7, h8, h9, h10, hjl, hlt, hk, wrap_succ hjl hAm]
            exact ⟨A.length - (j + 1) + 1, by omega, j + 1, by omega, rfl, rfl, below_step hjl hno hp⟩
      · rw [fromK_none fun i x hi hx => hno i x (by omega) hx] at hsu
        simp [go_sem, h5, h6, h7, hv7, hh7, h8, h9, h10, hjl, wrap_succ hlt hm]
        exact ⟨L.length - (q + 1), by omega, q + 1, by omega, rfl, rfl, by rw [hsu]; simp⟩
  · rw [List.take_of_length_le (by omega)] at hh7
    simp [go_sem, h5, h6, h7, hv7, hh7, h8, hlt]
    refine PostR.retW [7] ?_ (.refl _)
    simp [go_sem, h7, hv7, hh7]

end Go.Proofs.Ytebggldlhohkpaa
