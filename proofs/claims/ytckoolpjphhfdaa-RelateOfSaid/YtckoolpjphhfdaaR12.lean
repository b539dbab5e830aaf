/- Chapter 36: the worked example. No condition. -/
import Derived.Test.YtckoolpjphhfdaaR11
namespace Go.Proofs.Ytckoolpjphhfdaa
open Go Go.Abs Go.Proofs
set_option linter.unusedSimpArgs false
set_option linter.unusedVariables false
def uA : Bytes := [64, 97, 58, 115]
def uB : Bytes := [64, 98, 58, 115]
def uC : Bytes := [64, 99, 58, 115]
def ex36 : List Evt := [
  { evZ with id := 1, sender := uA, kind := 11, content := { evZ.content with text := [111, 110, 101] } },
  { evZ with id := 2, sender := uA, kind := 13, content := { evZ.content with text := [116, 119, 111], target := 1 } },
  { evZ with id := 3, sender := uB, kind := 13, content := { evZ.content with text := [116, 104, 114, 101, 101], target := 1 } },
  { evZ with id := 4, sender := uB, kind := 12, content := { evZ.content with text := [43], target := 1 } },
  { evZ with id := 5, sender := uC, kind := 12, content := { evZ.content with text := [43], target := 1 } },
  { evZ with id := 6, sender := uC, kind := 11, content := { evZ.content with text := [102, 111, 117, 114], target := 1, thread := true } }]
theorem ex36_once : onceL ex36 = ex36 := by rfl
theorem ex36_sum : (sumOf ex36 1).edit = 2 ∧ (sumOf ex36 1).thread = 1 ∧ (sumOf ex36 1).last = 6 ∧ (sumOf ex36 1).pairs = [([43], uB), ([43], uC)] := by decide
theorem ex36_react : reactL [([43], uB), ([43], uC)] = [.agg [S [43], I 2]] := by rfl
theorem ex36_show : showOf ex36 1 = ([116, 119, 111], 0) := by decide
theorem ex36_threads : sortedL (threadsL (onceL ex36)) = [1] := by decide
def again36 : Evt := { evZ with id := 9, sender := uB, kind := 12, content := { evZ.content with text := [43], target := 1 } }
def wrong36 : Evt := { evZ with id := 9, sender := uB, kind := 12, content := { evZ.content with text := [43], target := 2 } }
theorem ex36_valid : validOf ex36 again36 = 4 ∧ validOf ex36 wrong36 = 1 := by decide
set_option maxRecDepth 8000 in
set_option maxHeartbeats 4000000 in
theorem sample36_ac  : AC Try.prog 27 [] (evs ex36) := by
  refine AC.of_body Try.func27 rfl rfl Try.ntmps27 (congrArg Array.toList Try.results27) (by simp) (pures0) (pure_evs _) fun w S' => AWp.of_vc [] ?_
  simp [go_sem]
  refine PostR.retW [] (r0 := .lst 29 (ex36.map fun x => .agg (evL x))) (by simp [go_sem]; rfl) ?_
  exact .one (.one (wk_evsL ex36))

end Go.Proofs.Ytckoolpjphhfdaa
