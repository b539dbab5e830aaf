/- The laws of chapter 09: Closes, Heads, Reaches, Depths, Follows, Unites. No condition. -/
import Derived.Test.YthlcncofhnkohaaG9
import Derived.Test.YthlcncofhnkohaaA0
namespace Go.Proofs.Ythlcncofhnkohaa
open Go Go.Abs
set_option linter.unusedSimpArgs false
def e9a : Evt := { evZ with id := 1, depth := 1 }
def e9b : Evt := { evZ with id := 2, depth := 2, prev := [1], auth := [1] }
def e9c : Evt := { evZ with id := 3, depth := 2, prev := [1], auth := [1] }
def e9d : Evt := { evZ with id := 4, depth := 3, prev := [2, 3], auth := [1, 2] }
def ex9 : List Evt := [e9a, e9b, e9c, e9d]
def ex9t : List Evt := [e9b, e9c, e9d]
theorem ex9_fit : Fit ex9 := ⟨by decide, by decide, by decide⟩
theorem ex9t_fit : Fit ex9t := ⟨by decide, by decide, by decide⟩
theorem ex9_heads : headsOf ex9 [1, 2, 3] = [2, 3] ∧ headsOf ex9 [1, 2, 3, 4] = [4] := by unfold headsOf; rw [sortedSet_eq, sortedSet_eq]; exact ⟨by decide, by decide⟩
theorem ex9_anc4 : reachOf ex9 false [4] = [1, 2, 3, 4] := (itR_end (by decide) (by decide)).symm.trans (by decide)
theorem ex9_anc3 : reachOf ex9 false [3] = [1, 3] := (itR_end (by decide) (by decide)).symm.trans (by decide)
theorem ex9_chain : chainOf ex9 [4] = [1, 2] := by
  unfold chainOf
  have : firstOf ex9 [4] = [1, 2] := by decide
  rw [this]
  exact (itR_end (by decide) (by decide)).symm.trans (by decide)
theorem ex9_before : beforeOf ex9 2 3 = false ∧ beforeOf ex9 1 4 = true := by unfold beforeOf; rw [ex9_anc3, ex9_anc4]; exact ⟨by decide, by decide⟩
theorem ex9_order : orderOf ex9 = [1, 2, 3, 4] := by decide
theorem ex9_roots : sortedSet (rootsOf ex9) = [1] := by rw [sortedSet_eq]; decide
theorem ex9_closed : closedOf ex9 = true ∧ closedOf ex9t = false := by decide
theorem ex9_depths : depthsP ex9 = 0 ∧ depthsP ex9t = 14 := by decide
set_option maxRecDepth 8000 in
set_option maxHeartbeats 4000000 in
theorem live9_ac  : AC Try.prog 19 [] (B true) := by
  refine AC.of_body Try.func19 rfl rfl Try.ntmps19 (congrArg Array.toList Try.results19) (by simp) (pures0) (pure_B _) fun w S' => AWp.of_vc [] ?_
  simp [go_sem]
  refine CallSem.by (heads_ac ex9 [1, 2, 3] ex9_fit (by decide)) ⟨wk_evsL ex9, .refl _, trivial⟩ (by simp [go_sem]) ?_
  rw [ex9_heads.1]
  simp [go_sem]
  refine CallSem.pure (same_ac [2, 3] [2, 3]) (by simp [go_sem]) ?_
  simp [go_sem]
  refine CallSem.by (heads_ac ex9 [1, 2, 3, 4] ex9_fit (by decide)) ⟨wk_evsL ex9, .refl _, trivial⟩ (by simp [go_sem]) ?_
  rw [ex9_heads.2]
  simp [go_sem]
  refine CallSem.pure (same_ac [4] [4]) (by simp [go_sem]) ?_
  simp [go_sem]
  refine CallSem.by (anc_ac ex9 [4] ex9_fit (by decide)) ⟨wk_evsL ex9, .refl _, trivial⟩ (by simp [go_sem]) ?_
  rw [ex9_anc4]
  simp [go_sem]
  refine CallSem.pure (same_ac [1, 2, 3, 4] [1, 2, 3, 4]) (by simp [go_sem]) ?_
  simp [go_sem]
  refine CallSem.by (chain_ac ex9 [4] ex9_fit (by decide)) ⟨wk_evsL ex9, .refl _, trivial⟩ (by simp [go_sem]) ?_
  rw [ex9_chain]
  simp [go_sem]
  refine CallSem.pure (same_ac [1, 2] [1, 2]) (by simp [go_sem]) ?_
  simp [go_sem]
  refine CallSem.by (before_ac ex9 2 3 ex9_fit) ⟨wk_evsL ex9, .refl _, .refl _, trivial⟩ (by simp [go_sem]) ?_
  rw [ex9_before.1]
  simp [go_sem]
  refine CallSem.by (before_ac ex9 1 4 ex9_fit) ⟨wk_evsL ex9, .refl _, .refl _, trivial⟩ (by simp [go_sem]) ?_
  rw [ex9_before.2]
  simp [go_sem]
  refine CallSem.by (order_ac ex9 (by decide)) ⟨wk_evsL ex9, trivial⟩ (by simp [go_sem]) ?_
  rw [ex9_order]
  simp [go_sem]
  refine CallSem.pure (same_ac [1, 2, 3, 4] [1, 2, 3, 4]) (by simp [go_sem]) ?_
  simp [go_sem]
  refine CallSem.by (roots_ac ex9 (by decide)) ⟨wk_evsL ex9, trivial⟩ (by simp [go_sem]) ?_
  rw [ex9_roots]
  simp [go_sem]
  refine CallSem.pure (same_ac [1] [1]) (by simp [go_sem]) ?_
  simp [go_sem]
  refine CallSem.by (closed_ac ex9) ⟨wk_evsL ex9, trivial⟩ (by simp [go_sem]) ?_
  rw [ex9_closed.1]
  simp [go_sem]
  refine CallSem.by (closed_ac ex9t) ⟨wk_evsL ex9t, trivial⟩ (by simp [go_sem]) ?_
  rw [ex9_closed.2]
  simp [go_sem]
  refine CallSem.by (depths_ac ex9 ex9_fit) ⟨wk_evsL ex9, trivial⟩ (by simp [go_sem]) ?_
  rw [ex9_depths.1]
  simp [go_sem]
  refine CallSem.by (depths_ac ex9t ex9t_fit) ⟨wk_evsL ex9t, trivial⟩ (by simp [go_sem]) ?_
  rw [ex9_depths.2]
  simp [go_sem]
  refine PostR.ret ?_
  simp [go_sem]

end Go.Proofs.Ythlcncofhnkohaa
