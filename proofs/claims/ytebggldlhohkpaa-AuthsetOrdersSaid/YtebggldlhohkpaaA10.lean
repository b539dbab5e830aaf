/- The laws of chapter 15, as contracts. No condition. -/
import Derived.Test.YtebggldlhohkpaaA9
namespace Go.Proofs.Ytebggldlhohkpaa
open Go Go.Abs
set_option linter.unusedSimpArgs false
theorem flatB2 (b : Bool) : FlatR (B b) := flat_v _
theorem mod_auth {e : Evt} (h : longOf e = false) : e.auth.length ≤ 100000 := by
  have := (longOf_iff.1 h).a1
  omega
set_option maxRecDepth 8000 in
set_option maxHeartbeats 4000000 in
theorem keys_law (e : Evt) : AC Try.prog 3 [ev e] (B true) := by
  refine AC.of_body Try.func3 rfl rfl Try.ntmps3 (congrArg Array.toList Try.results3) (by simp) (pures1 (pure_ev _)) (pure_B _) fun w S' => AWp.of_vc [] ?_
  simp [go_sem]
  refine CallSem.pure (long_ac e) (by simp [go_sem]) ?_
  cases hL : longOf e with
  | true =>
    simp [go_sem]
    refine PostR.ret ?_
    simp [go_sem]
  | false =>
    simp [go_sem]
    refine AWp.drawAll rfl (by kernel_rfl) ?_
    simp [go_sem]
    refine CalmThen.pure (keys_ac e) rfl ?_
    simp [go_sem]
    refine CalmThen.pure (rkeys_ac e) rfl ?_
    simp [go_sem]
    refine CalmThen.pure (rsame_ac (keysOf e) (keysOf e)) rfl ?_
    simp [go_sem]
    refine CalmThen.pure live15_ac rfl ?_
    simp [go_sem]
    refine PostR.ret ?_
    simp [go_sem]

set_option maxRecDepth 8000 in
set_option maxHeartbeats 4000000 in
theorem selects_law (e : Evt) (s : List EntD) : AC Try.prog 4 [ev e, ents s] (B true) := by
  refine AC.of_body Try.func4 rfl rfl Try.ntmps4 (congrArg Array.toList Try.results4) (by simp) (pures2 (pure_ev _) (pure_ents _)) (pure_B _) fun w S' => AWp.of_vc [] ?_
  simp [go_sem]
  refine CallSem.pure (long_ac e) (by simp [go_sem]) ?_
  cases hL : longOf e with
  | true =>
    simp [go_sem]
    refine PostR.ret ?_
    simp [go_sem]
  | false =>
    by_cases g : (60 : Int) < s.length
    · simp [go_sem, g]
      refine PostR.ret ?_
      simp [go_sem]
    simp [go_sem, g]
    refine AWp.drawAll rfl (by kernel_rfl) ?_
    simp [go_sem]
    refine CalmThen.pure (sel_ac e s) rfl ?_
    simp [go_sem]
    refine CalmThen.pure (rsel_ac e s) rfl ?_
    simp [go_sem]
    refine CalmThen.pure (same_ac (selOf e s) (selOf e s)) rfl ?_
    simp [go_sem]
    refine CalmThen.pure live15_ac rfl ?_
    simp [go_sem]
    refine PostR.ret ?_
    simp [go_sem]

set_option maxRecDepth 8000 in
set_option maxHeartbeats 4000000 in
theorem fits_law (l : List Evt) (e : Evt) : AC Try.prog 5 [evs l, ev e] (B true) := by
  refine AC.of_body Try.func5 rfl rfl Try.ntmps5 (congrArg Array.toList Try.results5) (by simp) (pures2 (pure_evs _) (pure_ev _)) (pure_B _) fun w S' => AWp.of_vc [] ?_
  simp [go_sem]
  refine CallSem.pure (great_ac l) (by simp [go_sem]) ?_
  cases hG : greatOf l 14 with
  | true =>
    simp [go_sem]
    refine PostR.ret ?_
    simp [go_sem]
  | false =>
    simp [go_sem]
    refine CallSem.pure (long_ac e) (by simp [go_sem]) ?_
    cases hL : longOf e with
    | true =>
      simp [go_sem]
      refine PostR.ret ?_
      simp [go_sem]
    | false =>
      simp [go_sem]
      refine AWp.drawAll rfl (by kernel_rfl) ?_
      simp [go_sem]
      refine CalmThen.pure (fits_ac l e (mod_auth hL)) rfl ?_
      simp [go_sem]
      refine CalmThen.pure (rfits_ac l e (mod_auth hL)) rfl ?_
      rw [← fits_eq]
      simp [go_sem]
      refine CalmThen.pure live15_ac rfl ?_
      simp [go_sem]
      refine PostR.ret ?_
      simp [go_sem]

set_option maxRecDepth 8000 in
set_option maxHeartbeats 4000000 in
theorem froms_law (l : List Evt) (e : Evt) : AC Try.prog 6 [evs l, ev e] (B true) := by
  refine AC.of_body Try.func6 rfl rfl Try.ntmps6 (congrArg Array.toList Try.results6) (by simp) (pures2 (pure_evs _) (pure_ev _)) (pure_B _) fun w S' => AWp.of_vc [] ?_
  simp [go_sem]
  refine CallSem.pure (great_ac l) (by simp [go_sem]) ?_
  cases hG : greatOf l 14 with
  | true =>
    simp [go_sem]
    refine PostR.ret ?_
    simp [go_sem]
  | false =>
    simp [go_sem]
    refine CallSem.pure (long_ac e) (by simp [go_sem]) ?_
    cases hL : longOf e with
    | true =>
      simp [go_sem]
      refine PostR.ret ?_
      simp [go_sem]
    | false =>
      simp [go_sem]
      refine AWp.drawAll rfl (by kernel_rfl) ?_
      simp [go_sem]
      refine CalmThen.pure (from_ac l e (mod_auth hL)) rfl ?_
      simp [go_sem]
      refine CalmThen.pure (rfrom_ac l e (mod_auth hL)) rfl ?_
      simp [go_sem]
      refine CalmThen.pure (sameAll_refl (fromOf l e)) rfl ?_
      simp [go_sem]
      refine CalmThen.pure live15_ac rfl ?_
      simp [go_sem]
      refine PostR.ret ?_
      simp [go_sem]

theorem from_len (l : List Evt) (e : Evt) : (fromOf l e).length ≤ 100000 := by
  have h1 := froms_len (ofIds l e.auth) (keysOf e)
  have h2 := keysOf_len e
  unfold fromOf; omega
theorem sel_len (e : Evt) (s : List EntD) : (selOf e s).length ≤ 100000 := by
  have h1 := sortedL_len (hits s (keysOf e))
  have h2 := hits_len s (keysOf e)
  have h3 := keysOf_len e
  unfold selOf; omega
set_option maxRecDepth 8000 in
set_option maxHeartbeats 4000000 in
theorem made_law (l : List Evt) (e : Evt) (s : List EntD) : AC Try.prog 7 [evs l, ev e, ents s] (B true) := by
  refine AC.of_body Try.func7 rfl rfl Try.ntmps7 (congrArg Array.toList Try.results7) (by simp) (pures3 (pure_evs _) (pure_ev _) (pure_ents _)) (pure_B _) fun w S' => AWp.of_vc [4] ?_
  simp [go_sem]
  refine CallSem.pure (great_ac l) (by simp [go_sem]) ?_
  cases hG : greatOf l 14 with
  | true =>
    simp [go_sem]
    refine CallSem.pure live15_ac (by simp [go_sem]) ?_
    simp [go_sem]
    refine PostR.ret ?_
    simp [go_sem]
  | false =>
    simp [go_sem]
    refine CallSem.pure (long_ac e) (by simp [go_sem, ev]) ?_
    cases hL : longOf e with
    | true =>
      simp [go_sem]
      refine CallSem.pure live15_ac (by simp [go_sem]) ?_
      simp [go_sem]
      refine PostR.ret ?_
      simp [go_sem]
    | false =>
      by_cases g : (60 : Int) < s.length
      · simp [go_sem, g]
        refine CallSem.pure live15_ac (by simp [go_sem]) ?_
        simp [go_sem]
        refine PostR.ret ?_
        simp [go_sem]
      simp [go_sem, g]
      refine CallSem.pure (honest_ac l s e.room) (by simp [go_sem]) ?_
      cases hH : honB l s e.room with
      | false =>
        simp [go_sem]
        refine CallSem.pure live15_ac (by simp [go_sem]) ?_
        simp [go_sem]
        refine PostR.ret ?_
        simp [go_sem]
      | true =>
        have hh := honB_iff.1 hH
        have hmade := made hh.1 hh.2
        have hwhole := whole hmade
        have hsl := sel_len e s
        generalize he' : ({ e with auth := selOf e s } : Evt) = e' at hmade hwhole
        have ha' : e'.auth = selOf e s := by rw [← he']
        have hcell : List.take 29 (List.take 9 (evc e) ++ AV.lst 1 (List.map I (selOf e s)) :: List.drop 10 (evc e)) = evc e' := by rw [← he']; rfl
        simp [go_sem]
        refine CallSem.pure (sel_ac e s) (by simp [go_sem]) ?_
        simp [go_sem]
        refine AWp.drawAll rfl (by kernel_rfl) ?_
        simp [go_sem, hcell]
        refine CalmThen.pure (fits_ac l e' (by rw [ha']; exact hsl)) rfl ?_
        rw [hmade]
        simp [go_sem, hcell]
        refine CalmThen.pure (from_ac l e' (by rw [ha']; exact hsl)) rfl ?_
        simp [go_sem]
        refine CalmThen.pure (rids_ac (fromOf l e') (from_len l e')) rfl ?_
        have hD := hwhole.2.2
        have hDl : ((fromOf l e').map (·.id)).length ≤ 1000000000 := by have := from_len l e'; rw [List.length_map]; omega
        generalize (fromOf l e').map (·.id) = D at hD hDl ⊢
        simp [go_sem]
        refine CalmThen.pure (sorted_ac D hDl) rfl ?_
        rw [hD, ha']
        simp [go_sem]
        refine CalmThen.pure (sorted_ac (selOf e s) (by omega)) rfl ?_
        simp [go_sem]
        refine CalmThen.pure (same_ac (sortedL (selOf e s)) (sortedL (selOf e s))) rfl ?_
        simp [go_sem]
        refine CalmThen.pure live15_ac rfl ?_
        simp [go_sem]
        refine PostR.ret ?_
        simp [go_sem]

set_option maxRecDepth 8000 in
set_option maxHeartbeats 4000000 in
theorem whole_law (l : List Evt) (e : Evt) : AC Try.prog 8 [evs l, ev e] (B true) := by
  refine AC.of_body Try.func8 rfl rfl Try.ntmps8 (congrArg Array.toList Try.results8) (by simp) (pures2 (pure_evs _) (pure_ev _)) (pure_B _) fun w S' => AWp.of_vc [] ?_
  simp [go_sem]
  refine CallSem.pure (great_ac l) (by simp [go_sem]) ?_
  cases hG : greatOf l 14 with
  | true =>
    simp [go_sem]
    refine CallSem.pure live15_ac (by simp [go_sem]) ?_
    simp [go_sem]
    refine PostR.ret ?_
    simp [go_sem]
  | false =>
    simp [go_sem]
    refine CallSem.pure (long_ac e) (by simp [go_sem]) ?_
    cases hL : longOf e with
    | true =>
      simp [go_sem]
      refine CallSem.pure live15_ac (by simp [go_sem]) ?_
      simp [go_sem]
      refine PostR.ret ?_
      simp [go_sem]
    | false =>
      simp [go_sem]
      refine CallSem.pure (fits_ac l e (mod_auth hL)) (by simp [go_sem]) ?_
      by_cases hF : fitsOf l e = 0
      case neg =>
        simp [go_sem, hF]
        refine CallSem.pure live15_ac (by simp [go_sem]) ?_
        simp [go_sem]
        refine PostR.ret ?_
        simp [go_sem]
      have hwhole := whole hF
      have hfl := from_len l e
      have hma := mod_auth hL
      simp [go_sem, hF]
      refine CallSem.pure (from_ac l e hma) (by simp [go_sem]) ?_
      generalize hA : fromOf l e = A at hwhole hfl ⊢
      have hAm : A.length ≤ maxLen := by unfold maxLen; omega
      simp [go_sem]
      refine AWp.loop_vc [] (fun m s => ∃ q : Nat, q ≤ A.length ∧ m = A.length - q ∧ s.σ 3 = .eptr (evc e) 0 ∧ s.σ 5 = evs A ∧ s.σ 6 = I q) A.length ⟨0, by simp [go_sem]⟩ ?_
      rintro m s ⟨q, hq, rfl, h3, h5, h6⟩
      by_cases hlt : q < A.length
      · simp [go_sem, h3, h5, h6, hlt]
        refine AWp.loop_vc [] (fun m s => ∃ k : Nat, k ≤ q ∧ m = q - k ∧ s.σ 3 = .eptr (evc e) 0 ∧ s.σ 5 = evs A ∧ s.σ 6 = I q ∧ s.σ 7 = I k) q ⟨0, by simp [go_sem, h3, h5, h6]⟩ ?_
        clear h3 h5 h6
        rintro m s ⟨k, hk, rfl, h3, h5, h6, h7⟩
        by_cases hkl : k < q
        · have hkA : k < A.length := by omega
          have hne := List.pairwise_iff_getElem.1 hwhole.1 k q hkA hlt hkl
          simp [go_sem, h3, h5, h6, h7, hlt, hkl]
          refine AWp.drawAll rfl (by kernel_rfl) ?_
          by_cases hkk : A[q].kind = A[k].kind
          · have hkey : ¬ A[q].key = A[k].key := fun h => hne ⟨hkk.symm, h.symm⟩
            have hkey' : (A[q].key == A[k].key) = false := by simpa using hkey
            simp [go_sem, h3, h5, h6, h7, hlt, hkl, hkA, hkk, hkey, hkey', wrap_succ hkA hAm]
            exact ⟨q - (k + 1), by omega, k + 1, by omega, rfl, rfl⟩
          · simp [go_sem, h3, h5, h6, h7, hlt, hkl, hkA, hkk, wrap_succ hkA hAm]
            exact ⟨q - (k + 1), by omega, k + 1, by omega, rfl, rfl⟩
        · simp [go_sem, h3, h5, h6, h7, hlt, hkl, wrap_succ hlt hAm]
          exact ⟨A.length - (q + 1), by omega, q + 1, by omega, rfl, rfl⟩
      · have hlen' := hwhole.2.1
        simp [go_sem, h3, h5, h6, hlt]
        refine AWp.drawAll rfl (by kernel_rfl) ?_
        simp [go_sem, h3, h5, h6, hlen']
        refine CalmThen.pure (rids_ac A hfl) rfl ?_
        have hD := hwhole.2.2
        have hDl : (A.map (·.id)).length ≤ 1000000000 := by rw [List.length_map]; omega
        generalize A.map (·.id) = D at hD hDl ⊢
        simp [go_sem]
        refine CalmThen.pure (sorted_ac D hDl) rfl ?_
        rw [hD]
        simp [go_sem, h3]
        refine CalmThen.pure (sorted_ac e.auth (by omega)) rfl ?_
        simp [go_sem]
        refine CalmThen.pure (same_ac (sortedL e.auth) (sortedL e.auth)) rfl ?_
        simp [go_sem]
        refine CalmThen.pure live15_ac rfl ?_
        simp [go_sem]
        refine PostR.ret ?_
        simp [go_sem]

theorem prec_ids {a b : EntD} : prec a b = prec ⟨a.kind, a.key, 0⟩ ⟨b.kind, b.key, 0⟩ := rfl
set_option maxRecDepth 8000 in
set_option maxHeartbeats 4000000 in
theorem orders_law (e : Evt) : AC Try.prog 9 [ev e] (B true) := by
  refine AC.of_body Try.func9 rfl rfl Try.ntmps9 (congrArg Array.toList Try.results9) (by simp) (pures1 (pure_ev _)) (pure_B _) fun w S' => AWp.of_vc [] ?_
  simp [go_sem]
  refine CallSem.pure (long_ac e) (by simp [go_sem]) ?_
  cases hL : longOf e with
  | true =>
    simp [go_sem]
    refine PostR.ret ?_
    simp [go_sem]
  | false =>
    simp [go_sem]
    refine CallSem.pure (keys_ac e) (by simp [go_sem]) ?_
    by_cases hk : e.kind = 1
    · have hK : keysOf e = [] := by unfold keysOf; rw [if_pos hk]
      rw [hK]
      simp [go_sem, hk]
      refine CallSem.pure live15_ac (by simp [go_sem]) ?_
      simp [go_sem]
      refine PostR.ret ?_
      simp [go_sem]
    have hadj := keysOf_adj e
    have hids := keysOf_ids e
    have hle := keysOf_len e
    have hin := keys_create hk
    generalize keysOf e = K at hadj hids hle hin ⊢
    have hm : K.length ≤ maxLen := by unfold maxLen; omega
    simp [go_sem, hk]
    refine AWp.loop_vc [] (fun m s => ∃ q : Nat, q ≤ K.length ∧ m = K.length - q ∧ s.σ 1 = .eptr (evc e) 0 ∧ s.σ 3 = ents K ∧ s.σ 4 = I q) K.length ⟨0, by simp [go_sem]⟩ ?_
    rintro m s ⟨q, hq, rfl, h1, h3, h4⟩
    by_cases hlt : q < K.length
    · have hz : K[q].id = 0 := hids _ (List.getElem_mem hlt)
      simp [go_sem, h1, h3, h4, hlt]
      refine AWp.drawAll rfl (by kernel_rfl) ?_
      cases q with
      | zero =>
        simp [go_sem, h1, h3, h4, hlt, hz, wrap_succ hlt hm]
        exact ⟨K.length - 1, by omega, 1, by omega, rfl, rfl⟩
      | succ p =>
        have hp : p < K.length := by omega
        have hw : IntKind.i64.wrap (p : Int) = (p : Int) := wrap_natE (by omega)
        have t1 : (0 : Int) ≤ (p : Int) + 1 := by omega
        have t2 : ((p : Int) + 1).toNat = p + 1 := by omega
        have t3 : (0 : Int) < (p : Int) + 1 := by omega
        have t4 : (p : Int) + 1 < K.length := by omega
        have hprec : prec ⟨K[p].kind, K[p].key, 0⟩ ⟨K[p + 1].kind, K[p + 1].key, 0⟩ = true := prec_ids.symm.trans (adj_get hadj p K[p] K[p + 1] (List.getElem?_eq_getElem hp) (List.getElem?_eq_getElem hlt))
        simp [go_sem, h1, h3, h4, hlt, hz, hp, hw, t1, t2, t3, t4]
        refine CalmThen.pure (ahead_ac K[p].kind K[p + 1].kind K[p].key K[p + 1].key) rfl ?_
        rw [hprec]
        simp [go_sem, h1, h3, h4, hlt, hz, hp, hw, t1, t2, t3, t4, wrap_succ hlt hm]
        exact ⟨K.length - (p + 1 + 1), by omega, p + 1 + 1, by omega, rfl, by have := wrap_succ hlt hm; simpa using this⟩
    · simp [go_sem, h1, h3, h4, hlt]
      refine CallSem.pure (is_ac K 1 []) (by simp [go_sem]) ?_
      rw [hin.1]
      simp [go_sem, h1, h3]
      refine CallSem.pure (is_ac K 3 []) (by simp [go_sem]) ?_
      rw [hin.2.1]
      simp [go_sem, h1, h3]
      refine CallSem.pure (is_ac K 2 e.sender) (by simp [go_sem]) ?_
      rw [hin.2.2]
      simp [go_sem]
      refine CallSem.pure live15_ac (by simp [go_sem]) ?_
      simp [go_sem]
      refine PostR.ret ?_
      simp [go_sem]

end Go.Proofs.Ytebggldlhohkpaa
