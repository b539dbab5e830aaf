/- Contracts of chapter 10: Diff. No condition. -/
import Derived.Test.YtmkchaiijfhnfaaS2
namespace Go.Proofs.Ytmkchaiijfhnfaa
open Go Go.Abs
set_option linter.unusedSimpArgs false

def diffOf (a b : List EntD) : List EntD := b.filter fun e => getOf a e.kind e.key != some e.id
theorem filter_take {α : Type} (p : α → Bool) (l : List α) (k : Nat) (h : k < l.length) : (l.take (k + 1)).filter p = if p l[k] = true then (l.take k).filter p ++ [l[k]] else (l.take k).filter p := by
  rw [List.take_succ_eq_append_getElem h, List.filter_append]
  split
  · rename_i hp; simp [hp]
  · rename_i hp; simp [hp]

end Go.Proofs.Ytmkchaiijfhnfaa
