/- The closed facts of the row of TopAgreement, one by one. No condition. -/
import Derived.Test.YthjmjdleecmaeaaGreatRows
import Derived.ProofKit
import Derived.JoinedCond
set_option linter.unusedSimpArgs false
set_option linter.unusedVariables false
set_option maxHeartbeats 4000000
set_option maxRecDepth 8000
namespace Go.Proofs.YthjmjdleecmaeaaGreat
open Go
theorem yr1:laidOutB Tryz.pinned.checked.prog=true:=by kernel_rfl
theorem yr2:mapsRowed Tryz.pinned.checked.prog=true:=by kernel_rfl
theorem yr3:(Rows.topAgreementUptoRow.inPlace==Program.inPlace Tryz.pinned.checked.prog 4)=true:=by kernel_rfl
theorem yr4:(Rows.topAgreementUptoRow.unfollowed==Program.unfollowed Tryz.pinned.checked.prog 4)=true:=by kernel_rfl
theorem yr5:(Rows.topAgreementUptoRow.recurses==Program.recurses Tryz.pinned.checked.prog 4)=true:=by kernel_rfl
theorem yr6:(Rows.topAgreementUptoRow.named==Program.varsNamed Tryz.pinned.checked.prog 4)=true:=by kernel_rfl
theorem yr0:joinedFacts Tryz.pinned.checked.prog 4 Tryz.f4 (Rows.OpenSpec.upto Rows.topAgreementSpec).bare Rows.topAgreementUptoRow=true:=by
 unfold joinedFacts
 rw[yr1,yr2,yr3,yr4,yr5,yr6]
 kernel_rfl
end Go.Proofs.YthjmjdleecmaeaaGreat
