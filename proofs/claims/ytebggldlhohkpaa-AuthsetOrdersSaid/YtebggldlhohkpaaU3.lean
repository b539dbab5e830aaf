/- Contracts: the library's Index and Contains; num.Has. No condition. -/
import Derived.Test.YtebggldlhohkpaaU2
namespace Go.Proofs.Ytebggldlhohkpaa
open Go Go.Abs
set_option linter.unusedSimpArgs false


end Go.Proofs.Ytebggldlhohkpaa
