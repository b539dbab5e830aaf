/- The laws of chapter 46, as contracts. No condition. -/
import Derived.Test.YtgpjdkbepgomhaaV9
namespace Go.Proofs.Ytgpjdkbepgomhaa
open Go Go.Abs
set_option linter.unusedSimpArgs false
set_option maxRecDepth 8000 in
set_option maxHeartbeats 4000000 in
theorem trustOf_law (c : CaseD) : AC Try.prog 3 [cs c] (B true) := by
  refine AC.of_body Try.func3 rfl rfl Try.ntmps3 (congrArg Array.toList Try.results3) (by simp) (pures1 (pure_cs _)) (pure_B _) fun w S' => AWp.of_vc [] ?_
  simp [go_sem]
  refine CallSem.pure (small_ac c) (by simp [go_sem]) ?_
  by_cases hs : Small c
  · have hu : c.other.user.length ≤ 1000 := by have := hs.2.2.2.2.2.1; omega
    have hd : c.device.length ≤ 1000 := by have := hs.2.2.2.2.2.2.1; omega
    simp [go_sem, hs]
    refine AWp.drawAll rfl (by kernel_rfl) ?_
    simp [go_sem]
    refine CalmThen.pure (of_ac c hu hd) (by simp [go_sem]) ?_
    simp [go_sem]
    refine CalmThen.pure (refOf_ac c.own c.other c.device c.verified c.blocked hu hd) (by simp [go_sem]) ?_
    simp [go_sem]
    refine CalmThen.pure lives_ac (by simp [go_sem]) ?_
    simp [go_sem]
    refine PostR.ret ?_
    simp [go_sem]
  · simp [go_sem, hs]
    refine CallSem.pure lives_ac (by simp [go_sem]) ?_
    simp [go_sem]
    refine PostR.ret ?_
    simp [go_sem]
end Go.Proofs.Ytgpjdkbepgomhaa
