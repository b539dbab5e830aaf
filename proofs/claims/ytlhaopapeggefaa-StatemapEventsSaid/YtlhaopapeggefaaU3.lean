/- Contracts: the library's Index and Contains; num.Has. No condition. -/
import Derived.Test.YtlhaopapeggefaaU2
namespace Go.Proofs.Ytlhaopapeggefaa
open Go Go.Abs
set_option linter.unusedSimpArgs false


end Go.Proofs.Ytlhaopapeggefaa
