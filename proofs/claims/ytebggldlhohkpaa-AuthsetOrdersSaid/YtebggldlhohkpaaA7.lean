/- Contracts of chapter 15: the reference's Fits. No condition. -/
import Derived.Test.YtebggldlhohkpaaA6
namespace Go.Proofs.Ytebggldlhohkpaa
open Go Go.Abs
set_option linter.unusedSimpArgs false
def rStep (K : List EntD) (seen : List EntD) (x : Evt) : Option (List EntD) := if (!isIn K x.kind x.key || isIn seen x.kind x.key) = true then none else some (seen ++ [⟨x.kind, x.key, 0⟩])
def rEnd (k : Int) (o : Option (List EntD)) : Int :=
  match o with
  | none => 16
  | some seen => if (k != 1 && !isIn seen 1 []) = true then 16 else 0
def rfitsOf (l : List Evt) (e : Evt) : Int :=
  if gapOf l e.auth = true then 14 else
  if roomOf (ofIds l e.auth) e.room = true then 13 else
  rEnd e.kind ((ofIds l e.auth).foldlM (rStep (keysOf e)) [])
theorem rStep_len {K s s' : List EntD} {x : Evt} (h : rStep K s x = some s') : s'.length = s.length + 1 := by
  unfold rStep at h
  split at h
  · cases h
  · cases h; simp
theorem flatB (b : Bool) : FlatR (B b) := flat_v _
set_option maxRecDepth 8000 in
set_option maxHeartbeats 4000000 in
theorem rfits_ac (l : List Evt) (e : Evt) (hsz : e.auth.length ≤ 100000) : AC Try.prog 20 [evs l, ev e] (I (rfitsOf l e)) := by
  refine AC.of_body Try.func20 rfl rfl Try.ntmps20 (congrArg Array.toList Try.results20) (by simp) (pures2 (pure_evs _) (pure_ev _)) (pure_I _) fun w S' => AWp.of_vc [] ?_
  have hm : e.auth.length ≤ maxLen := by unfold maxLen; omega
  have hkl := keysOf_len e
  simp [go_sem]
  refine AWp.loop_vc [] (fun m s => ∃ q : Nat, q ≤ e.auth.length ∧ m = e.auth.length - q ∧ s.σ 0 = evs l ∧ s.σ 3 = .eptr (evc e) 0 ∧ s.σ 5 = I q ∧ gapOf l (e.auth.take q) = false) e.auth.length ⟨0, by simp [go_sem, gapOf]⟩ ?_
  rintro m s ⟨q, hq, rfl, h0, h3, h5, hgap⟩
  by_cases hlt : q < e.auth.length
  · simp [go_sem, h0, h3, h5, hlt]
    refine CallSem.pure (rgetE_ac l e.auth[q]) (by simp [go_sem]) ?_
    cases hg : getE l e.auth[q] with
    | none =>
      have hbad : rfitsOf l e = 14 := by
        unfold rfitsOf
        have hgt : gapOf l e.auth = true := List.any_eq_true.2 ⟨e.auth[q], List.getElem_mem hlt, by simp only [hg, Option.isNone_none]⟩
        rw [if_pos hgt]
      simp [go_sem, h0, h3, h5, hlt]
      refine PostR.ret ?_
      simp [go_sem, hbad]
    | some x =>
      simp [go_sem, h0, h3, h5, hlt, wrap_succ hlt hm]
      refine ⟨e.auth.length - (q + 1), by omega, q + 1, by omega, rfl, rfl, ?_⟩
      unfold gapOf at hgap ⊢
      rw [any_take hlt, hgap, hg]; rfl
  · rw [List.take_of_length_le (by omega)] at hgap
    have hnl := gap_named hgap
    simp [go_sem, h0, h3, h5, hlt]
    refine CallSem.pure (rofE_ac l e.auth hsz) (by simp [go_sem]) ?_
    generalize hA : ofIds l e.auth = A at hnl ⊢
    have hfit : rfitsOf l e = if roomOf A e.room = true then 13 else rEnd e.kind (A.foldlM (rStep (keysOf e)) []) := by
      unfold rfitsOf; rw [if_neg (by simp [hgap]), hA]
    have hAm : A.length ≤ maxLen := by unfold maxLen; omega
    simp [go_sem, h0, h3, h5, hlt]
    refine AWp.loop_vc [] (fun m s => ∃ q : Nat, q ≤ A.length ∧ m = A.length - q ∧ s.σ 3 = .eptr (evc e) 0 ∧ s.σ 8 = evs A ∧ s.σ 9 = I q ∧ ∀ (j : Nat) x, j < q → A[j]? = some x → (x.room != e.room) = false) A.length ⟨0, by simp [go_sem, h3]⟩ ?_
    clear h0 h3 h5
    rintro m s ⟨q, hq, rfl, h3, h8, h9, hno⟩
    by_cases hlt : q < A.length
    · simp [go_sem, h3, h8, h9, hlt]
      refine AWp.drawAll rfl (by kernel_rfl) ?_
      simp [go_sem, h3, h8, h9, hlt]
      by_cases hr : A[q].room = e.room
      · simp [go_sem, h3, h8, h9, hlt, hr, wrap_succ hlt hAm]
        exact ⟨A.length - (q + 1), by omega, q + 1, by omega, rfl, rfl, below_step hlt (fun j x hj hx => by simpa using hno j x hj hx) hr⟩
      · have hbad : rfitsOf l e = 13 := by
          have hrt : roomOf A e.room = true := List.any_eq_true.2 ⟨A[q], List.getElem_mem hlt, by simp [hr]⟩
          rw [hfit, if_pos hrt]
        simp [go_sem, h3, h8, h9, hlt, hr]
        refine PostR.ret ?_
        simp [go_sem, hbad]
    · have hrt : roomOf A e.room = false := List.any_eq_false.2 fun x hx => by
        obtain ⟨j, hj, rfl⟩ := List.mem_iff_getElem.1 hx
        simpa using hno j _ (by omega) (List.getElem?_eq_getElem hj)
      rw [if_neg (by simp [hrt])] at hfit
      simp [go_sem, h3, h8, h9, hlt]
      refine CallSem.pure (rkeys_ac e) (by simp [go_sem]) ?_
      simp [go_sem, h3, h8, h9, hlt]
      refine AWp.ownNil 11 56 3 (by simp [go_sem]) ?_
      refine AWp.loop_vc [] (fun m s => ∃ (q v : Nat) (L : List EntD), q ≤ A.length ∧ m = A.length - q ∧ s.σ 3 = .eptr (evc e) 0 ∧ s.σ 8 = evs A ∧ s.σ 10 = ents (keysOf e) ∧ s.σ 12 = I q ∧ s.σ 11 = .ref 11 v ∧ s.ver 11 = v ∧ s.h 11 = .arr 56 3 (L.map ent) ∧ L.length = q ∧ (A.take q).foldlM (rStep (keysOf e)) [] = some L) A.length ⟨0, s.ver 11 + 1, [], by simp [go_sem, h3, h8]⟩ ?_
      clear h3 h8 h9 hno hlt
      rintro m s ⟨q, v, L, hq, rfl, h3, h8, h10, h12, h11, hv11, hh11, hLl, hL⟩
      by_cases hlt : q < A.length
      · simp [go_sem, h3, h8, h10, h12, h11, hv11, hh11, hlt]
        refine AWp.drawAll rfl (by kernel_rfl) ?_
        simp [go_sem, h3, h8, h10, h12, h11, hv11, hh11, hlt]
        refine CalmThen.pure (is_ac (keysOf e) A[q].kind A[q].key) (by simp [go_sem]) ?_
        cases hK : isIn (keysOf e) A[q].kind A[q].key with
        | false =>
          have hbad : rfitsOf l e = 16 := by
            have hn : rStep (keysOf e) L A[q] = none := by unfold rStep; rw [hK]; rfl
            rw [hfit, foldM_none _ hlt hL hn]; rfl
          simp [go_sem, h3, h8, h10, h12, h11, hv11, hh11, hlt]
          refine PostR.ret ?_
          simp [go_sem, hbad]
        | true =>
          simp [go_sem, h3, h8, h10, h12, h11, hv11, hh11, hlt]
          refine CalmThen.lent (r := B (isIn L A[q].kind A[q].key)) ?_ (flatB _) (by simp [go_sem]) ?_
          · simp [go_sem, h11, hv11, hh11]
            exact is_ac L A[q].kind A[q].key
          · cases hS : isIn L A[q].kind A[q].key with
            | true =>
              have hbad : rfitsOf l e = 16 := by
                have hn : rStep (keysOf e) L A[q] = none := by unfold rStep; rw [hK, hS]; rfl
                rw [hfit, foldM_none _ hlt hL hn]; rfl
              simp [go_sem, h3, h8, h10, h12, h11, hv11, hh11, hlt]
              refine PostR.ret ?_
              simp [go_sem, hbad]
            | false =>
              have hd : rStep (keysOf e) L A[q] = some (L ++ [⟨A[q].kind, A[q].key, 0⟩]) := by unfold rStep; rw [hK, hS]; rfl
              have hL' := foldM_succ _ hlt hL
              rw [hd] at hL'
              simp [go_sem, h3, h8, h10, h12, h11, hv11, hh11, hlt]
              refine AWp_state (fun t => t.σ 3 = .eptr (evc e) 0 ∧ t.σ 8 = evs A ∧ t.σ 10 = ents (keysOf e) ∧ t.σ 12 = I q ∧ t.σ 11 = .ref 11 v ∧ t.ver 11 = v ∧ t.h 11 = .arr 56 3 (L.map ent)) (by simp [go_sem, h3, h8, h10, h12, h11, hv11, hh11]) ?_
              clear h3 h8 h10 h12 h11 hv11 hh11
              rintro t ⟨h3, h8, h10, h12, h11, hv11, hh11⟩
              refine AWp.draw (n := 13) [] rfl (by kernel_rfl) ?_
              simp [go_sem, h3, h8, h10, h12, h11, hv11, hh11, hlt, wrap_succ hlt hAm]
              exact ⟨⟨by omega, by omega⟩, A.length - (q + 1), by omega, q + 1, by omega, rfl, rfl, L ++ [⟨A[q].kind, A[q].key, 0⟩], by simp only [List.map_append, List.map_cons, List.map_nil]; rfl, by simp [hLl], hL'⟩
      · rw [List.take_of_length_le (by omega)] at hL
        have hend : rfitsOf l e = rEnd e.kind (some L) := by rw [hfit, hL]
        by_cases hc : e.kind = 1
        · simp [go_sem, h3, h8, h10, h12, h11, hv11, hh11, hlt, hc]
          refine PostR.ret ?_
          simp [go_sem, hend, rEnd, hc]
        · simp [go_sem, h3, h8, h10, h12, h11, hv11, hh11, hlt, hc]
          refine CallSem.lent (r := B (isIn L 1 [])) ?_ (flatB _) (by simp [go_sem]) ?_
          · simp [go_sem, h11, hv11, hh11]
            exact is_ac L 1 []
          · cases hS : isIn L 1 [] with
            | true =>
              simp [go_sem, h3, h8, h10, h12, h11, hv11, hh11, hlt, hc]
              refine PostR.ret ?_
              simp [go_sem, hend, rEnd, hS]
            | false =>
              simp [go_sem, h3, h8, h10, h12, h11, hv11, hh11, hlt, hc]
              refine PostR.ret ?_
              simp [go_sem, hend, rEnd, hc, hS]

end Go.Proofs.Ytebggldlhohkpaa
