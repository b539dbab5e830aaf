/- The laws of chapter 10, as contracts: Checks, Sets, Splits, Places, Diffs. No condition. -/
import Derived.Test.YtlhaopapeggefaaS9
import Derived.Test.YtlhaopapeggefaaP2
namespace Go.Proofs.Ytlhaopapeggefaa
open Go Go.Abs
set_option linter.unusedSimpArgs false
theorem short_spec {s : List EntD} (h : shortOf s = true) : s.length ≤ 60 ∧ adj s = true ∧ s.all goodE = true ∧ checkOf s = 0 := by
  simp only [shortOf, Bool.and_eq_true, decide_eq_true_eq] at h
  have := check_zero.1 h.2.1
  exact ⟨h.1, this.1, this.2.1, h.2.1⟩
theorem allShort_spec {l : List (List EntD)} (h : allShortOf l = true) : l.length ≤ 8 ∧ ∀ s ∈ l, s.length ≤ 60 ∧ adj s = true := by
  simp only [allShortOf, Bool.and_eq_true, decide_eq_true_eq, List.all_eq_true] at h
  exact ⟨h.1, fun s hs => ⟨(short_spec (h.2 s hs)).1, (short_spec (h.2 s hs)).2.1⟩⟩
set_option maxRecDepth 8000 in
set_option maxHeartbeats 4000000 in
theorem checks_law (s : List EntD) : AC Try.prog 3 [ents s] (B true) := by
  refine AC.of_body Try.func3 rfl rfl Try.ntmps3 (congrArg Array.toList Try.results3) (by simp) (pures1 (pure_ents _)) (pure_B _) fun w S' => AWp.of_vc [] ?_
  by_cases g : (2100 : Int) < s.length
  · simp [go_sem, g]
    refine CallSem.pure lives_ac (by simp [go_sem]) ?_
    simp [go_sem]
    refine PostR.ret ?_
    simp [go_sem]
  simp [go_sem, g]
  refine CallSem.pure (check_ac s) (by simp [go_sem]) ?_
  simp [go_sem]
  refine CallSem.pure (rcheck_ac s) (by simp [go_sem]) ?_
  simp [go_sem]
  refine CallSem.pure lives_ac (by simp [go_sem]) ?_
  simp [go_sem]
  refine PostR.ret ?_
  simp [go_sem]
set_option maxRecDepth 8000 in
set_option maxHeartbeats 4000000 in
theorem sets_law (s : List EntD) (x : EntD) : AC Try.prog 4 [ents s, ent x] (B true) := by
  refine AC.of_body Try.func4 rfl rfl Try.ntmps4 (congrArg Array.toList Try.results4) (by simp) (pures2 (pure_ents _) (pure_ent _)) (pure_B _) fun w S' => AWp.of_vc [] ?_
  simp [go_sem]
  refine CallSem.pure (short_ac s) (by simp [go_sem]) ?_
  cases hs : shortOf s with
  | false =>
    simp [go_sem]
    refine CallSem.pure lives_ac (by simp [go_sem]) ?_
    simp [go_sem]
    refine PostR.ret ?_
    simp [go_sem]
  | true =>
    obtain ⟨h1, h2, _, _⟩ := short_spec hs
    by_cases g : (100 : Int) < x.key.length
    · simp [go_sem, g]
      refine CallSem.pure lives_ac (by simp [go_sem]) ?_
      simp [go_sem]
      refine PostR.ret ?_
      simp [go_sem]
    simp [go_sem, g]
    refine CallSem.pure (copiedS_ac s (by omega)) (by simp [go_sem]) ?_
    simp [go_sem]
    refine CallSem.pure (get_ac s x.kind x.key) (by simp [go_sem]) ?_
    simp [go_sem]
    refine CallSem.pure (rget_ac s x.kind x.key) (by simp [go_sem]) ?_
    rw [← getOf_eq h2]
    simp [go_sem]
    refine AWp.drawAll rfl (by kernel_rfl) ?_
    simp [go_sem]
    refine CalmThen.pure (set_ac s x.kind x.key x.id (by omega)) rfl ?_
    simp [go_sem]
    refine CalmThen.pure (rset_ac s x.kind x.key x.id (by omega)) rfl ?_
    simp [go_sem]
    refine CalmThen.pure (rsame_ac (setOf s x.kind x.key x.id) (setOf s x.kind x.key x.id)) rfl ?_
    simp [go_sem]
    refine CalmThen.pure (rsame_ac s s) rfl ?_
    simp [go_sem]
    refine CalmThen.pure lives_ac rfl ?_
    simp [go_sem]
    refine PostR.ret ?_
    simp [go_sem]
theorem split_eq {l : List (List EntD)} (h : ∀ s ∈ l, adj s = true) : splitAV (rallOf l) l = splitAV (allOf l) l := by
  rw [show rallOf l = allOf l from funext fun e => (allOf_eq h e).symm]
set_option maxRecDepth 8000 in
set_option maxHeartbeats 4000000 in
theorem splits_law (l : List (List EntD)) : AC Try.prog 6 [states l] (B true) := by
  refine AC.of_body Try.func6 rfl rfl Try.ntmps6 (congrArg Array.toList Try.results6) (by simp) (pures1 (pure_states _)) (pure_B _) fun w S' => AWp.of_vc [] ?_
  simp [go_sem]
  refine CallSem.pure (allShort_ac l) (by simp [go_sem]) ?_
  cases hs : allShortOf l with
  | false =>
    simp [go_sem]
    refine CallSem.pure lives_ac (by simp [go_sem]) ?_
    simp [go_sem]
    refine PostR.ret ?_
    simp [go_sem]
  | true =>
    obtain ⟨h1, h2⟩ := allShort_spec hs
    simp [go_sem]
    refine CallSem.pure (split_ac l (by omega) (fun s hs => by have := (h2 s hs).1; omega)) (by simp [go_sem]) ?_
    simp [go_sem, splitAV]
    refine CallSem.pure (rsplit_ac l (by omega) (fun s hs => by have := (h2 s hs).1; omega)) (by simp [go_sem]) ?_
    rw [split_eq fun s hs => (h2 s hs).2]
    simp [go_sem, splitAV]
    refine CallSem.pure (rsame_ac (sameO (allOf l) l l.length) (sameO (allOf l) l l.length)) (by simp [go_sem]) ?_
    simp [go_sem]
    refine CallSem.pure (same_ac (sortedL (idsO (allOf l) l l.length)) (sortedL (idsO (allOf l) l l.length))) (by simp [go_sem]) ?_
    simp [go_sem]
    refine CallSem.pure lives_ac (by simp [go_sem]) ?_
    simp [go_sem]
    refine PostR.ret ?_
    simp [go_sem]
theorem check_set {s : List EntD} (h : adj s = true) (hg : s.all goodE = true) (hl : s.length ≤ 60) {k : Int} {id : Int} (key : Bytes) (hk : isSt k = true) (hid : 0 ≤ id) : checkOf (setOf s k key id) = 0 := by
  rw [check_zero]
  refine ⟨adj_set h k key id, ?_, by have := setOf_len s k key id; omega⟩
  obtain ⟨p, r, he, hor, _, _⟩ := setOf_cut h k key id
  rw [he]
  rw [List.all_eq_true] at hg ⊢
  intro e hm
  rw [List.mem_append, List.mem_cons] at hm
  have hsub : ∀ e, e ∈ p ∨ e ∈ r → e ∈ s := by
    intro e he
    rcases hor with h | ⟨c, h, _⟩
    · rw [h, List.mem_append]; exact he
    · rw [h, List.mem_append, List.mem_cons]
      rcases he with he | he
      · exact .inl he
      · exact .inr (.inr he)
  rcases hm with hm | rfl | hm
  · exact hg e (hsub e (.inl hm))
  · simp [goodE, hk, hid]
  · exact hg e (hsub e (.inr hm))
set_option maxRecDepth 8000 in
set_option maxHeartbeats 4000000 in
theorem places_law (s : List EntD) (x y : EntD) : AC Try.prog 5 [ents s, ent x, ent y] (B true) := by
  refine AC.of_body Try.func5 rfl rfl Try.ntmps5 (congrArg Array.toList Try.results5) (by simp) (pures3 (pure_ents _) (pure_ent _) (pure_ent _)) (pure_B _) fun w S' => AWp.of_vc [] ?_
  simp [go_sem]
  refine CallSem.pure (short_ac s) (by simp [go_sem]) ?_
  cases hs : shortOf s with
  | false =>
    simp [go_sem]
    refine CallSem.pure lives_ac (by simp [go_sem]) ?_
    simp [go_sem]
    refine PostR.ret ?_
    simp [go_sem]
  | true =>
    obtain ⟨h1, h2, h3, _⟩ := short_spec hs
    by_cases g : (100 : Int) < x.key.length
    · simp [go_sem, g]
      refine CallSem.pure lives_ac (by simp [go_sem]) ?_
      simp [go_sem]
      refine PostR.ret ?_
      simp [go_sem]
    simp [go_sem, g]
    refine CallSem.pure (kind_ac x.kind) (by simp [go_sem]) ?_
    cases hk : isSt x.kind with
    | false =>
      simp [go_sem]
      refine CallSem.pure lives_ac (by simp [go_sem]) ?_
      simp [go_sem]
      refine PostR.ret ?_
      simp [go_sem]
    | true =>
      by_cases hid : x.id < 0
      · simp [go_sem, hid]
        refine CallSem.pure lives_ac (by simp [go_sem]) ?_
        simp [go_sem]
        refine PostR.ret ?_
        simp [go_sem]
      simp [go_sem, hid]
      refine CallSem.pure (set_ac s x.kind x.key x.id (by omega)) (by simp [go_sem]) ?_
      simp [go_sem]
      refine CallSem.pure (get_ac (setOf s x.kind x.key x.id) x.kind x.key) (by simp [go_sem]) ?_
      rw [set_get h2]
      simp [go_sem]
      refine CallSem.pure (check_ac (setOf s x.kind x.key x.id)) (by simp [go_sem]) ?_
      rw [check_set h2 h3 h1 _ hk (by omega)]
      simp [go_sem]
      have rest : ¬ (x.kind = y.kind ∧ x.key = y.key) → getOf (setOf s x.kind x.key x.id) y.kind y.key = getOf s y.kind y.key := fun h => set_other h2 _ _ _ h
      by_cases e1 : y.kind = x.kind
      · by_cases e2 : y.key = x.key
        · simp [go_sem, e1, e2]
          refine CallSem.pure lives_ac (by simp [go_sem]) ?_
          simp [go_sem]
          refine PostR.ret ?_
          simp [go_sem]
        · have e2' : (y.key == x.key) = false := by simp [e2]
          simp [go_sem, e1, e2, e2']
          rw [← e1]
          refine CallSem.pure (get_ac (setOf s y.kind x.key x.id) y.kind y.key) (by simp [go_sem]) ?_
          have hr := rest fun h => e2 h.2.symm
          rw [← e1] at hr
          rw [hr]
          simp [go_sem]
          refine CallSem.pure (get_ac s y.kind y.key) (by simp [go_sem]) ?_
          simp [go_sem]
          refine CallSem.pure lives_ac (by simp [go_sem]) ?_
          simp [go_sem]
          refine PostR.ret ?_
          simp [go_sem]
      · simp [go_sem, e1]
        refine CallSem.pure (get_ac (setOf s x.kind x.key x.id) y.kind y.key) (by simp [go_sem]) ?_
        rw [rest fun h => e1 h.1.symm]
        simp [go_sem]
        refine CallSem.pure (get_ac s y.kind y.key) (by simp [go_sem]) ?_
        simp [go_sem]
        refine CallSem.pure lives_ac (by simp [go_sem]) ?_
        simp [go_sem]
        refine PostR.ret ?_
        simp [go_sem]
end Go.Proofs.Ytlhaopapeggefaa
