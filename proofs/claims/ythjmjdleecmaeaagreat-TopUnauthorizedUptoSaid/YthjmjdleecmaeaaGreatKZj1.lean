/- The closed facts of the row of TopUnauthorized, one by one. No condition. -/
import Derived.Test.YthjmjdleecmaeaaGreatRows
import Derived.ProofKit
import Derived.JoinedCond
set_option linter.unusedSimpArgs false
set_option linter.unusedVariables false
set_option maxHeartbeats 4000000
set_option maxRecDepth 8000
namespace Go.Proofs.YthjmjdleecmaeaaGreat
open Go
theorem zav:laidOutB Tryz.pinned.checked.prog=true:=by kernel_rfl
theorem zaw:mapsRowed Tryz.pinned.checked.prog=true:=by kernel_rfl
theorem zax:(Rows.topUnauthorizedUptoRow.inPlace==Program.inPlace Tryz.pinned.checked.prog 3)=true:=by kernel_rfl
theorem zay:(Rows.topUnauthorizedUptoRow.unfollowed==Program.unfollowed Tryz.pinned.checked.prog 3)=true:=by kernel_rfl
theorem zaz:(Rows.topUnauthorizedUptoRow.recurses==Program.recurses Tryz.pinned.checked.prog 3)=true:=by kernel_rfl
theorem za0:(Rows.topUnauthorizedUptoRow.named==Program.varsNamed Tryz.pinned.checked.prog 3)=true:=by kernel_rfl
theorem zau:joinedFacts Tryz.pinned.checked.prog 3 Tryz.f3 (Rows.OpenSpec.upto Rows.topUnauthorizedSpec).bare Rows.topUnauthorizedUptoRow=true:=by
 unfold joinedFacts
 rw[zav,zaw,zax,zay,zaz,za0]
 kernel_rfl
end Go.Proofs.YthjmjdleecmaeaaGreat
