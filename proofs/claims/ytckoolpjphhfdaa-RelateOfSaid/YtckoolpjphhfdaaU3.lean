/- Contracts: the library's Index and Contains; num.Has. No condition. -/
import Derived.Test.YtckoolpjphhfdaaU2
namespace Go.Proofs.Ytckoolpjphhfdaa
open Go Go.Abs
set_option linter.unusedSimpArgs false


end Go.Proofs.Ytckoolpjphhfdaa
