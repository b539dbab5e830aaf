/- Contracts of chapter 10: all, InAll, the reference's Diff. No condition. -/
import Derived.Test.YtebggldlhohkpaaS5
namespace Go.Proofs.Ytebggldlhohkpaa
open Go Go.Abs
set_option linter.unusedSimpArgs false
def allOf (l : List (List EntD)) (e : EntD) : Bool := l.all fun s => getOf s e.kind e.key == some e.id
def rallOf (l : List (List EntD)) (e : EntD) : Bool := l.all fun s => rgetOf s e.kind e.key == some e.id
def rdiffOf (a b : List EntD) : List EntD := b.filter fun e => rgetOf a e.kind e.key != some e.id
end Go.Proofs.Ytebggldlhohkpaa
