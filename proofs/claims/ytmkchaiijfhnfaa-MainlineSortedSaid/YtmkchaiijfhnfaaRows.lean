/-
  No cell of these rows narrows 'for every input' (looked for: loops, veiled, ifaces, maps, wideKeys, modest, calm, conditions, laid).
  DERIVED. THE GIVEN ROWS OF THIS SEAT. 5 by the template 'for every input the law returns true; each argument reads behind the call as it read before'; 0 by the template 'total and deterministic' (their statements: YtmkchaiijfhnfaaTotals.lean).
  GIVEN WITH THE SEED: the statements are not yours to turn. If you find one false, say at which input.
  Laid BY PROGRAM, IN A SANDBOX (cutbox-rows.mjs): the forced cells as the released guide's own fill.sh prints them over the translation 11b85127ee589ef9… (all of the seat's roots in one cut). By AI agents, Wed Nov 11 2026. No macro, syntax, notation, axiom, sorry.
-/
import Derived.Test.YtmkchaiijfhnfaaChecked
import GoSem.Claim
import GoSem.ClaimJoined
import GoSem.ClaimMapViews
import Derived.JoinedTies
import Derived.KernelRfl
namespace Go.Proofs.Ytmkchaiijfhnfaa
/- THE CELL 'sum', in the pinned program and in every row, IS THE sha256 OF THE DUMP (.gsa) THAT YtmkchaiijfhnfaaProg.lean LOADS. Nothing in Lean hashes anything: it is a label: what it is worth is what the hold of that sum in a sandbox is worth. -/
noncomputable def Try.pinned : Pinned := { name := "ytmkchaiijfhnfaa", sum := "11b85127ee589ef9afb393ea60ca044879499c4f53955811c4db28972b7ad9aa", checked := Try.checked }
namespace Rows
def none {H : Type} : Left H := { results := [], args := [] }

/-- 'fedchatlaw19.MainlineOf': WHATEVER THE INPUT: true; the input reads as it did. -/
def mainlineOfSpec : ChangeSpec := { name := "mainlineOf", fn := fun _ => fun
  | [d1, d2] => { results := [.lit (.bool true)], args := [d1, d2] }
  | _ => none }
def mainlineOfRow : OpenClaim := { program := "ytmkchaiijfhnfaa", sum := "11b85127ee589ef9afb393ea60ca044879499c4f53955811c4db28972b7ad9aa", func := "fedchat/fedchatlaw19.MainlineOf", spec := "mainlineOf", unfollowed := true, recurses := true, apart := false }
def MainlineOfSaid : Prop := mainlineOfRow.holds Try.pinned (OpenSpec.ofChange mainlineOfSpec)

/-- ITS FALSE NEIGHBOUR: 'it returns false'. Refute it at one input. -/
def mainlineOfWrong : ChangeSpec := { name := "mainlineOf", fn := fun _ => fun
  | [d1, d2] => { results := [.lit (.bool false)], args := [d1, d2] }
  | _ => none }
def MainlineOfWrongFalsely : Prop := mainlineOfRow.holds Try.pinned (OpenSpec.ofChange mainlineOfWrong)

/-- 'fedchatlaw19.MainlineClosest': WHATEVER THE INPUT: true; the input reads as it did. -/
def mainlineClosestSpec : ChangeSpec := { name := "mainlineClosest", fn := fun _ => fun
  | [d1, d2, d3] => { results := [.lit (.bool true)], args := [d1, d2, d3] }
  | _ => none }
def mainlineClosestRow : OpenClaim := { program := "ytmkchaiijfhnfaa", sum := "11b85127ee589ef9afb393ea60ca044879499c4f53955811c4db28972b7ad9aa", func := "fedchat/fedchatlaw19.MainlineClosest", spec := "mainlineClosest", unfollowed := true, recurses := true, apart := false }
def MainlineClosestSaid : Prop := mainlineClosestRow.holds Try.pinned (OpenSpec.ofChange mainlineClosestSpec)

/-- ITS FALSE NEIGHBOUR: 'it returns false'. Refute it at one input. -/
def mainlineClosestWrong : ChangeSpec := { name := "mainlineClosest", fn := fun _ => fun
  | [d1, d2, d3] => { results := [.lit (.bool false)], args := [d1, d2, d3] }
  | _ => none }
def MainlineClosestWrongFalsely : Prop := mainlineClosestRow.holds Try.pinned (OpenSpec.ofChange mainlineClosestWrong)

/-- 'fedchatlaw19.MainlineOrders': WHATEVER THE INPUT: true; the input reads as it did. -/
def mainlineOrdersSpec : ChangeSpec := { name := "mainlineOrders", fn := fun _ => fun
  | [d1, d2, d3] => { results := [.lit (.bool true)], args := [d1, d2, d3] }
  | _ => none }
def mainlineOrdersRow : OpenClaim := { program := "ytmkchaiijfhnfaa", sum := "11b85127ee589ef9afb393ea60ca044879499c4f53955811c4db28972b7ad9aa", func := "fedchat/fedchatlaw19.MainlineOrders", spec := "mainlineOrders", unfollowed := true, recurses := true, apart := false }
def MainlineOrdersSaid : Prop := mainlineOrdersRow.holds Try.pinned (OpenSpec.ofChange mainlineOrdersSpec)

/-- ITS FALSE NEIGHBOUR: 'it returns false'. Refute it at one input. -/
def mainlineOrdersWrong : ChangeSpec := { name := "mainlineOrders", fn := fun _ => fun
  | [d1, d2, d3] => { results := [.lit (.bool false)], args := [d1, d2, d3] }
  | _ => none }
def MainlineOrdersWrongFalsely : Prop := mainlineOrdersRow.holds Try.pinned (OpenSpec.ofChange mainlineOrdersWrong)

/-- 'fedchatlaw19.MainlineChain': WHATEVER THE INPUT: true; the input reads as it did. -/
def mainlineChainSpec : ChangeSpec := { name := "mainlineChain", fn := fun _ => fun
  | [d1, d2] => { results := [.lit (.bool true)], args := [d1, d2] }
  | _ => none }
def mainlineChainRow : OpenClaim := { program := "ytmkchaiijfhnfaa", sum := "11b85127ee589ef9afb393ea60ca044879499c4f53955811c4db28972b7ad9aa", func := "fedchat/fedchatlaw19.MainlineChain", spec := "mainlineChain", unfollowed := true, recurses := true, apart := false }
def MainlineChainSaid : Prop := mainlineChainRow.holds Try.pinned (OpenSpec.ofChange mainlineChainSpec)

/-- ITS FALSE NEIGHBOUR: 'it returns false'. Refute it at one input. -/
def mainlineChainWrong : ChangeSpec := { name := "mainlineChain", fn := fun _ => fun
  | [d1, d2] => { results := [.lit (.bool false)], args := [d1, d2] }
  | _ => none }
def MainlineChainWrongFalsely : Prop := mainlineChainRow.holds Try.pinned (OpenSpec.ofChange mainlineChainWrong)

/-- 'fedchatlaw19.MainlineSorted': WHATEVER THE INPUT: true; the input reads as it did. -/
def mainlineSortedSpec : ChangeSpec := { name := "mainlineSorted", fn := fun _ => fun
  | [d1, d2, d3] => { results := [.lit (.bool true)], args := [d1, d2, d3] }
  | _ => none }
def mainlineSortedRow : OpenClaim := { program := "ytmkchaiijfhnfaa", sum := "11b85127ee589ef9afb393ea60ca044879499c4f53955811c4db28972b7ad9aa", func := "fedchat/fedchatlaw19.MainlineSorted", spec := "mainlineSorted", unfollowed := true, recurses := true, apart := false }
def MainlineSortedSaid : Prop := mainlineSortedRow.holds Try.pinned (OpenSpec.ofChange mainlineSortedSpec)

/-- ITS FALSE NEIGHBOUR: 'it returns false'. Refute it at one input. -/
def mainlineSortedWrong : ChangeSpec := { name := "mainlineSorted", fn := fun _ => fun
  | [d1, d2, d3] => { results := [.lit (.bool false)], args := [d1, d2, d3] }
  | _ => none }
def MainlineSortedWrongFalsely : Prop := mainlineSortedRow.holds Try.pinned (OpenSpec.ofChange mainlineSortedWrong)

/- THE SECOND FORM. 'bulk': how many values and letters a reading holds, each counted each time it is reached (what is shared counts as often as it is met; a slice's spare places count too). A statement '..UptoSaid' is the law's where the arguments, and the package variables that the reading takes, are together of bulk at most 1048576: NARROWER than '..Said'. Prove '..Said' where nothing that the law and all that it calls make is longer than what came in: it says more and counts as full. Else prove '..UptoSaid'. A law counts once. -/
mutual
def uptoBulk {H : Type} : DataW H → Nat
  | .lit (.string bytes) => bytes.length + 1
  | .lit _ => 1
  | .nil => 1
  | .ptr d => uptoBulk d + 1
  | .slice elems spare => uptoBulkAll elems + uptoBulkAll spare + 1
  | .agg parts => uptoBulkAll parts + 1
  | .iface _ d => uptoBulk d + 1
  | .map entries => uptoBulkEntries entries + 1
  | .held _ => 1
def uptoBulkAll {H : Type} : List (DataW H) → Nat
  | [] => 0
  | d :: r => uptoBulk d + uptoBulkAll r
def uptoBulkEntries {H : Type} : List (Lit × DataW H) → Nat
  | [] => 0
  | x :: r => uptoBulkEntry x + uptoBulkEntries r
def uptoBulkEntry {H : Type} : Lit × DataW H → Nat
  | (.string bytes, d) => bytes.length + uptoBulk d + 1
  | (_, d) => uptoBulk d + 1
 end
def uptoSmall : (H : Type) → List (DataW H) → Bool := fun _ ds => decide (uptoBulkAll ds ≤ 1048576)
def OpenSpec.upto (s : _root_.Go.ChangeSpec) : _root_.Go.OpenSpec := { _root_.Go.OpenSpec.ofChange s with cond := some uptoSmall }

/-- 'fedchatlaw19.MainlineOf', WHERE WHAT IT READS IS OF BULK AT MOST 1048576: true; the input reads as it did. -/
def mainlineOfUptoRow : OpenClaim := { program := "ytmkchaiijfhnfaa", sum := "11b85127ee589ef9afb393ea60ca044879499c4f53955811c4db28972b7ad9aa", func := "fedchat/fedchatlaw19.MainlineOf", spec := "mainlineOf", unfollowed := true, recurses := true, apart := false, narrowed := true }
def MainlineOfUptoSaid : Prop := mainlineOfUptoRow.holds Try.pinned (OpenSpec.upto mainlineOfSpec)

/-- 'fedchatlaw19.MainlineClosest', WHERE WHAT IT READS IS OF BULK AT MOST 1048576: true; the input reads as it did. -/
def mainlineClosestUptoRow : OpenClaim := { program := "ytmkchaiijfhnfaa", sum := "11b85127ee589ef9afb393ea60ca044879499c4f53955811c4db28972b7ad9aa", func := "fedchat/fedchatlaw19.MainlineClosest", spec := "mainlineClosest", unfollowed := true, recurses := true, apart := false, narrowed := true }
def MainlineClosestUptoSaid : Prop := mainlineClosestUptoRow.holds Try.pinned (OpenSpec.upto mainlineClosestSpec)

/-- 'fedchatlaw19.MainlineOrders', WHERE WHAT IT READS IS OF BULK AT MOST 1048576: true; the input reads as it did. -/
def mainlineOrdersUptoRow : OpenClaim := { program := "ytmkchaiijfhnfaa", sum := "11b85127ee589ef9afb393ea60ca044879499c4f53955811c4db28972b7ad9aa", func := "fedchat/fedchatlaw19.MainlineOrders", spec := "mainlineOrders", unfollowed := true, recurses := true, apart := false, narrowed := true }
def MainlineOrdersUptoSaid : Prop := mainlineOrdersUptoRow.holds Try.pinned (OpenSpec.upto mainlineOrdersSpec)

/-- 'fedchatlaw19.MainlineChain', WHERE WHAT IT READS IS OF BULK AT MOST 1048576: true; the input reads as it did. -/
def mainlineChainUptoRow : OpenClaim := { program := "ytmkchaiijfhnfaa", sum := "11b85127ee589ef9afb393ea60ca044879499c4f53955811c4db28972b7ad9aa", func := "fedchat/fedchatlaw19.MainlineChain", spec := "mainlineChain", unfollowed := true, recurses := true, apart := false, narrowed := true }
def MainlineChainUptoSaid : Prop := mainlineChainUptoRow.holds Try.pinned (OpenSpec.upto mainlineChainSpec)

/-- 'fedchatlaw19.MainlineSorted', WHERE WHAT IT READS IS OF BULK AT MOST 1048576: true; the input reads as it did. -/
def mainlineSortedUptoRow : OpenClaim := { program := "ytmkchaiijfhnfaa", sum := "11b85127ee589ef9afb393ea60ca044879499c4f53955811c4db28972b7ad9aa", func := "fedchat/fedchatlaw19.MainlineSorted", spec := "mainlineSorted", unfollowed := true, recurses := true, apart := false, narrowed := true }
def MainlineSortedUptoSaid : Prop := mainlineSortedUptoRow.holds Try.pinned (OpenSpec.upto mainlineSortedSpec)

end Rows
end Go.Proofs.Ytmkchaiijfhnfaa
