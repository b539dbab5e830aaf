/- Contracts of chapter 36: relations. No condition. -/
import Derived.Test.YtckoolpjphhfdaaE1
import Derived.Test.YtckoolpjphhfdaaU3
import Derived.Test.YtckoolpjphhfdaaFp
namespace Go.Proofs.Ytckoolpjphhfdaa
open Go Go.Abs
set_option linter.unusedSimpArgs false
set_option linter.unusedVariables false
/-- An event's relation, and to what. -/
def relE (e : Evt) : Int × Int :=
  if e.content.target ≤ 0 then (0, 0) else if e.kind = 12 then (4, e.content.target) else if e.kind = 13 then (3, e.content.target) else if e.kind = 11 then (if e.content.thread = true then (2, e.content.target) else (1, e.content.target)) else (0, 0)
def relAV (e : Evt) : AV := .agg [I (relE e).1, I (relE e).2]
theorem pure_relAV (e : Evt) : Pure (relAV e) := pure_agg fun c hc => by
  simp only [List.mem_cons, List.not_mem_nil, or_false] at hc; rcases hc with rfl | rfl <;> exact pure_v _
attribute [go_sem] relAV
theorem pureR_two (a b : Int) : PureR (.tup [I a, I b]) := by
  intro r hr
  simp only [List.mem_cons, List.not_mem_nil, or_false] at hr
  rcases hr with rfl | rfl <;> exact pure_I _
set_option maxRecDepth 8000 in
set_option maxHeartbeats 4000000 in
theorem rel_ac (e : Evt) : AC Try.prog 26 [ev e] (relAV e) := by
  refine AC.of_body Try.func26 rfl rfl Try.ntmps26 (congrArg Array.toList Try.results26) (by simp) (pures1 (pure_ev _)) (pure_relAV _) fun w S' => AWp.of_vc [] ?_
  unfold relAV relE
  simp [go_sem]
  by_cases h0 : e.content.target ≤ 0
  · simp [go_sem, h0]
    refine PostR.ret ?_
    simp [go_sem]
  by_cases h1 : e.kind = 12
  · simp [go_sem, h0, h1]
    refine PostR.ret ?_
    simp [go_sem]
  by_cases h2 : e.kind = 13
  · simp [go_sem, h0, h1, h2]
    refine PostR.ret ?_
    simp [go_sem]
  by_cases h3 : e.kind = 11
  · cases h4 : e.content.thread with
    | true =>
      simp [go_sem, h0, h1, h2, h3, h4]
      refine PostR.ret ?_
      simp [go_sem]
    | false =>
      simp [go_sem, h0, h1, h2, h3, h4]
      refine PostR.ret ?_
      simp [go_sem]
  · simp [go_sem, h0, h1, h2, h3]
    refine PostR.ret ?_
    simp [go_sem]

set_option maxRecDepth 8000 in
set_option maxHeartbeats 4000000 in
theorem relOf_ac (e : Evt) : AC Try.prog 10 [ev e] (.tup [I (relE e).1, I (relE e).2]) := by
  refine AC.of_body Try.func10 rfl rfl Try.ntmps10 (congrArg Array.toList Try.results10) (by simp) (pures1 (pure_ev _)) (pureR_two _ _) fun w S' => AWp.of_vc [] ?_
  simp [go_sem]
  refine CallSem.pure (rel_ac e) (by simp [go_sem]) ?_
  simp [go_sem]
  refine AWp.drawAll rfl (by kernel_rfl) ?_
  simp [go_sem]
  refine PostR.ret ?_
  simp [go_sem]

set_option maxRecDepth 8000 in
set_option maxHeartbeats 4000000 in
theorem rrel_ac (e : Evt) : AC Try.prog 11 [ev e] (.tup [I (relE e).1, I (relE e).2]) := by
  refine AC.of_body Try.func11 rfl rfl Try.ntmps11 (congrArg Array.toList Try.results11) (by simp) (pures1 (pure_ev _)) (pureR_two _ _) fun w S' => AWp.of_vc [] ?_
  unfold relE
  simp [go_sem]
  by_cases h0 : e.content.target ≤ 0
  · simp [go_sem, h0]
    refine PostR.ret ?_
    simp [go_sem]
  by_cases h1 : e.kind = 12
  · simp [go_sem, h0, h1]
    refine AWp.drawAll rfl (by kernel_rfl) ?_
    simp [go_sem, h0, h1]
    refine PostR.ret ?_
    simp [go_sem]
  by_cases h2 : e.kind = 13
  · simp [go_sem, h0, h1, h2]
    refine AWp.drawAll rfl (by kernel_rfl) ?_
    simp [go_sem, h0, h1, h2]
    refine PostR.ret ?_
    simp [go_sem]
  by_cases h3 : e.kind = 11
  · cases h4 : e.content.thread with
    | true =>
      simp [go_sem, h0, h1, h2, h3, h4]
      refine AWp.drawAll rfl (by kernel_rfl) ?_
      simp [go_sem, h0, h1, h2, h3, h4]
      refine PostR.ret ?_
      simp [go_sem]
    | false =>
      simp [go_sem, h0, h1, h2, h3, h4]
      refine AWp.drawAll rfl (by kernel_rfl) ?_
      simp [go_sem, h0, h1, h2, h3, h4]
      refine PostR.ret ?_
      simp [go_sem]
  · simp [go_sem, h0, h1, h2, h3]
    refine PostR.ret ?_
    simp [go_sem]

end Go.Proofs.Ytckoolpjphhfdaa
