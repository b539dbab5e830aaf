/- Contracts: the library's Clone; num.Sorted, num.Union. No condition. -/
import Derived.Test.YtmkchaiijfhnfaaU3
import Derived.Test.YtmkchaiijfhnfaaFs
import Derived.Test.YtmkchaiijfhnfaaLa
namespace Go.Proofs.Ytmkchaiijfhnfaa
open Go Go.Abs Go.Shelf
set_option linter.unusedSimpArgs false

/-- The elements in increasing order, each once, as the library makes them. -/
def sortedSet (l : List Int) : List Int := Lib.compact (l.mergeSort fun x y => decide (x ≤ y))



end Go.Proofs.Ytmkchaiijfhnfaa
