/- Contracts of chapter 46: lives. No condition. -/
import Derived.Test.YtgpjdkbepgomhaaV8
namespace Go.Proofs.Ytgpjdkbepgomhaa
open Go Go.Abs
set_option linter.unusedSimpArgs false
def aliceK : KeysD := ⟨[64, 97, 58, 115], 0, 0, []⟩
theorem t_d : trustOf aliceK sampleK [100] [] [] = 2 := by decide
theorem t_d9 : trustOf aliceK sampleK [100] [9] [] = 3 := by decide
theorem t_e : trustOf aliceK sampleK [101] [] [] = 1 := by decide
theorem t_f : trustOf aliceK sampleK [102] [] [] = 0 := by decide
theorem s_all : sendOf aliceK sampleK [] [] false sampleK.devices = some [[100], [101]] := by decide
theorem s_strict : sendOf aliceK sampleK [] [] true sampleK.devices = none := by decide
theorem s_one : sendOf aliceK sampleK [] [[64, 98, 58, 115, 47, 101]] true sampleK.devices = some [[100]] := by decide
theorem v_72 : verifyL [7, 2] 5 = [2, 5, 7] := by decide

set_option maxRecDepth 8000 in
set_option maxHeartbeats 4000000 in
theorem lives_ac : AC Try.prog 8 [] (B true) := by
  refine AC.of_body Try.func8 rfl rfl Try.ntmps8 (congrArg Array.toList Try.results8) (by simp) pures0 (pure_B _) fun w S' => AWp.of_vc [] ?_
  have wa : WkL0 [S [64, 97, 58, 115], I 0, I 0, .v (.slice none 0 0)] (ksc aliceK) := ⟨.refl _, .refl _, .refl _, .nil _, trivial⟩
  simp [go_sem]
  refine CallSem.pure sample_ac (by simp [go_sem]) ?_
  simp [go_sem]
  refine CallSem.by (send_ac aliceK sampleK [] [] false (by decide) (by decide) (by decide)) ⟨.agg wa, .refl _, .nil _, .nil _, .refl _, trivial⟩ (by simp [go_sem]) ?_
  rw [s_all]
  simp [go_sem, sendAV]
  refine CallSem.by (send_ac aliceK sampleK [] [] true (by decide) (by decide) (by decide)) ⟨.agg wa, .refl _, .nil _, .nil _, .refl _, trivial⟩ (by simp [go_sem]) ?_
  rw [s_strict]
  simp [go_sem, sendAV]
  refine CallSem.by (send_ac aliceK sampleK [] [[64, 98, 58, 115, 47, 101]] true (by decide) (by decide) (by decide)) ⟨.agg wa, .refl _, .nil _, .refl _, .refl _, trivial⟩ (by simp [go_sem]) ?_
  rw [s_one]
  simp [go_sem, sendAV]
  refine CallSem.by (trust_ac aliceK sampleK [100] [] [] (by decide) (by decide)) ⟨.agg wa, .refl _, .refl _, .nil _, .nil _, trivial⟩ (by simp [go_sem]) ?_
  rw [t_d]
  simp [go_sem]
  refine CallSem.by (trust_ac aliceK sampleK [100] [9] [] (by decide) (by decide)) ⟨.agg wa, .refl _, .refl _, .refl _, .nil _, trivial⟩ (by simp [go_sem]) ?_
  rw [t_d9]
  simp [go_sem]
  refine CallSem.by (trust_ac aliceK sampleK [101] [] [] (by decide) (by decide)) ⟨.agg wa, .refl _, .refl _, .nil _, .nil _, trivial⟩ (by simp [go_sem]) ?_
  rw [t_e]
  simp [go_sem]
  refine CallSem.by (trust_ac aliceK sampleK [102] [] [] (by decide) (by decide)) ⟨.agg wa, .refl _, .refl _, .nil _, .nil _, trivial⟩ (by simp [go_sem]) ?_
  rw [t_f]
  simp [go_sem]
  refine CallSem.pure (verify_ac [7, 2] 5 (by decide)) (by simp [go_sem]) ?_
  rw [v_72]
  simp [go_sem]
  refine CallSem.pure (same_ac [2, 5, 7] [2, 5, 7]) (by simp [go_sem]) ?_
  simp [go_sem]
  refine CallSem.by (shield_ac []) ⟨.nil _, trivial⟩ (by simp [go_sem]) ?_
  simp [go_sem, shieldOf]
  refine CallSem.by (changed_ac sampleK aliceK) ⟨.refl _, .agg wa, trivial⟩ (by simp [go_sem]) ?_
  simp [go_sem, changedOf, sampleK, aliceK]
  refine PostR.ret ?_
  simp [go_sem]
end Go.Proofs.Ytgpjdkbepgomhaa
