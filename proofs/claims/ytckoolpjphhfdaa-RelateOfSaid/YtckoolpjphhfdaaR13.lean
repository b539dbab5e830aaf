/- Chapter 36: lives; the law Of. No condition. -/
import Derived.Test.YtckoolpjphhfdaaR12
namespace Go.Proofs.Ytckoolpjphhfdaa
open Go Go.Abs Go.Proofs
set_option linter.unusedSimpArgs false
set_option linter.unusedVariables false
theorem ex36_sumD : sumOf ex36 1 = ⟨2, [([43], uB), ([43], uC)], 1, 6⟩ := by
  have h := ex36_sum
  cases hs : sumOf ex36 1 with
  | mk a b c d => rw [hs] at h; obtain ⟨h1, h2, h3, h4⟩ := h; simp only at h1 h2 h3 h4; rw [h1, h2, h3, h4]
theorem ex36_sumAV : sumAV (sumOf ex36 1) = .agg [I 2, .lst 2 [.agg [S [43], I 2]], I 1, I 6] := by
  rw [ex36_sumD]
  show AV.agg [I 2, .lst 2 (reactL [([43], uB), ([43], uC)]), I 1, I 6] = _
  rw [ex36_react]
theorem ex36_5 : ex36[5]'(by decide) = { evZ with id := 6, sender := uC, kind := 11, content := { evZ.content with text := [102, 111, 117, 114], target := 1, thread := true } } := rfl
theorem ex36_rel5 : relE { evZ with id := 6, sender := uC, kind := 11, content := { evZ.content with text := [102, 111, 117, 114], target := 1, thread := true } } = (2, 1) := by decide
theorem relOf36_ac : AC Try.prog 10 [ev (ex36[5]'(by decide))] (.tup [I 2, I 1]) := by
  have h := relOf_ac (ex36[5]'(by decide))
  rw [ex36_5, ex36_rel5] at h
  rw [ex36_5]; exact h
theorem sum36_ac : AC Try.prog 15 [evs ex36, I 1] (.agg [I 2, .lst 2 [.agg [S [43], I 2]], I 1, I 6]) := by
  have h := sum_ac ex36 1 (by decide); rw [ex36_sumAV] at h; exact h
theorem show36_ac : AC Try.prog 17 [evs ex36, I 1] (.tup [S [116, 119, 111], I 0]) := by
  have h := show_ac ex36 1 (by decide); rw [ex36_show] at h; exact h
theorem valid36a_ac : AC Try.prog 22 [evs ex36, ev again36] (I 4) := by
  have h := valid_ac ex36 again36 (by decide); rw [ex36_valid.1] at h; exact h
theorem valid36b_ac : AC Try.prog 22 [evs ex36, ev wrong36] (I 1) := by
  have h := valid_ac ex36 wrong36 (by decide); rw [ex36_valid.2] at h; exact h
theorem threads36_ac : AC Try.prog 20 [evs ex36] (ints [1]) := by
  have h := threads_ac ex36 (by decide); rw [ex36_threads] at h; exact h
set_option maxRecDepth 8000 in
set_option maxHeartbeats 4000000 in
theorem lives36_ac  : AC Try.prog 12 [] (B true) := by
  refine AC.of_body Try.func12 rfl rfl Try.ntmps12 (congrArg Array.toList Try.results12) (by simp) (pures0) (pure_B _) fun w S' => AWp.of_vc [] ?_
  have hl6 : ex36.length = 6 := rfl
  simp [go_sem]
  refine CallSem.pure sample36_ac (by simp [go_sem]) ?_
  simp [go_sem]
  refine CallSem.pure sum36_ac (by simp [go_sem]) ?_
  simp [go_sem]
  refine CallSem.pure show36_ac (by simp [go_sem]) ?_
  simp [go_sem, hl6]
  refine CallSem.pure relOf36_ac (by simp [go_sem]) ?_
  simp [go_sem]
  refine CallSem.by valid36a_ac ⟨.refl _, .agg (wk_evL again36), trivial⟩ (by simp [go_sem]) ?_
  simp [go_sem]
  refine CallSem.by valid36b_ac ⟨.refl _, .agg (wk_evL wrong36), trivial⟩ (by simp [go_sem]) ?_
  simp [go_sem]
  refine CallSem.pure threads36_ac (by simp [go_sem]) ?_
  simp [go_sem]
  refine CallSem.pure (same_ac [1] [1]) (by simp [go_sem]) ?_
  simp [go_sem]
  refine PostR.ret ?_
  simp [go_sem]

set_option maxRecDepth 8000 in
set_option maxHeartbeats 4000000 in
theorem of36_law (e : Evt) : AC Try.prog 3 [ev e] (B true) := by
  refine AC.of_body Try.func3 rfl rfl Try.ntmps3 (congrArg Array.toList Try.results3) (by simp) (pures1 (pure_ev _)) (pure_B _) fun w S' => AWp.of_vc [] ?_
  simp [go_sem]
  refine CallSem.pure (relOf_ac e) (by simp [go_sem]) ?_
  simp [go_sem]
  refine CallSem.pure (rrel_ac e) (by simp [go_sem]) ?_
  simp [go_sem]
  refine CallSem.pure lives36_ac (by simp [go_sem]) ?_
  simp [go_sem]
  refine PostR.ret ?_
  simp [go_sem]

end Go.Proofs.Ytckoolpjphhfdaa
