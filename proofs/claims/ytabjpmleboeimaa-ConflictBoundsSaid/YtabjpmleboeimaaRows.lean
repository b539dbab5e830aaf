/-
  No cell of these rows narrows 'for every input' (looked for: loops, veiled, ifaces, maps, wideKeys, modest, calm, conditions, laid).
  DERIVED. THE GIVEN ROWS OF THIS SEAT. 4 by the template 'for every input the law returns true; each argument reads behind the call as it read before'; 0 by the template 'total and deterministic' (their statements: YtabjpmleboeimaaTotals.lean).
  GIVEN WITH THE SEED: the statements are not yours to turn. If you find one false, say at which input.
  Laid BY PROGRAM, IN A SANDBOX (cutbox-rows.mjs): the forced cells as the released guide's own fill.sh prints them over the translation dd4bd9bdf3ad5867… (all of the seat's roots in one cut). By AI agents, Wed Nov 11 2026. No macro, syntax, notation, axiom, sorry.
-/
import Derived.Test.YtabjpmleboeimaaChecked
import GoSem.Claim
import GoSem.ClaimJoined
import GoSem.ClaimMapViews
import Derived.JoinedTies
import Derived.KernelRfl
namespace Go.Proofs.Ytabjpmleboeimaa
/- THE CELL 'sum', in the pinned program and in every row, IS THE sha256 OF THE DUMP (.gsa) THAT YtabjpmleboeimaaProg.lean LOADS. Nothing in Lean hashes anything: it is a label: what it is worth is what the hold of that sum in a sandbox is worth. -/
noncomputable def Try.pinned : Pinned := { name := "ytabjpmleboeimaa", sum := "dd4bd9bdf3ad58678d9eec7d666c848b9362f87ff15798981b6e871d080c12a6", checked := Try.checked }
namespace Rows
def none {H : Type} : Left H := { results := [], args := [] }

/-- 'fedchatlaw17.ConflictFulls': WHATEVER THE INPUT: true; the input reads as it did. -/
def conflictFullsSpec : ChangeSpec := { name := "conflictFulls", fn := fun _ => fun
  | [d1, d2] => { results := [.lit (.bool true)], args := [d1, d2] }
  | _ => none }
def conflictFullsRow : OpenClaim := { program := "ytabjpmleboeimaa", sum := "dd4bd9bdf3ad58678d9eec7d666c848b9362f87ff15798981b6e871d080c12a6", func := "fedchat/fedchatlaw17.ConflictFulls", spec := "conflictFulls", unfollowed := true, recurses := true, apart := false }
def ConflictFullsSaid : Prop := conflictFullsRow.holds Try.pinned (OpenSpec.ofChange conflictFullsSpec)

/-- ITS FALSE NEIGHBOUR: 'it returns false'. Refute it at one input. -/
def conflictFullsWrong : ChangeSpec := { name := "conflictFulls", fn := fun _ => fun
  | [d1, d2] => { results := [.lit (.bool false)], args := [d1, d2] }
  | _ => none }
def ConflictFullsWrongFalsely : Prop := conflictFullsRow.holds Try.pinned (OpenSpec.ofChange conflictFullsWrong)

/-- 'fedchatlaw17.ConflictDiffers': WHATEVER THE INPUT: true; the input reads as it did. -/
def conflictDiffersSpec : ChangeSpec := { name := "conflictDiffers", fn := fun _ => fun
  | [d1, d2] => { results := [.lit (.bool true)], args := [d1, d2] }
  | _ => none }
def conflictDiffersRow : OpenClaim := { program := "ytabjpmleboeimaa", sum := "dd4bd9bdf3ad58678d9eec7d666c848b9362f87ff15798981b6e871d080c12a6", func := "fedchat/fedchatlaw17.ConflictDiffers", spec := "conflictDiffers", unfollowed := true, recurses := true, apart := false }
def ConflictDiffersSaid : Prop := conflictDiffersRow.holds Try.pinned (OpenSpec.ofChange conflictDiffersSpec)

/-- ITS FALSE NEIGHBOUR: 'it returns false'. Refute it at one input. -/
def conflictDiffersWrong : ChangeSpec := { name := "conflictDiffers", fn := fun _ => fun
  | [d1, d2] => { results := [.lit (.bool false)], args := [d1, d2] }
  | _ => none }
def ConflictDiffersWrongFalsely : Prop := conflictDiffersRow.holds Try.pinned (OpenSpec.ofChange conflictDiffersWrong)

/-- 'fedchatlaw17.ConflictOrders': WHATEVER THE INPUT: true; the input reads as it did. -/
def conflictOrdersSpec : ChangeSpec := { name := "conflictOrders", fn := fun _ => fun
  | [d1, d2, d3] => { results := [.lit (.bool true)], args := [d1, d2, d3] }
  | _ => none }
def conflictOrdersRow : OpenClaim := { program := "ytabjpmleboeimaa", sum := "dd4bd9bdf3ad58678d9eec7d666c848b9362f87ff15798981b6e871d080c12a6", func := "fedchat/fedchatlaw17.ConflictOrders", spec := "conflictOrders", unfollowed := true, recurses := true, apart := false }
def ConflictOrdersSaid : Prop := conflictOrdersRow.holds Try.pinned (OpenSpec.ofChange conflictOrdersSpec)

/-- ITS FALSE NEIGHBOUR: 'it returns false'. Refute it at one input. -/
def conflictOrdersWrong : ChangeSpec := { name := "conflictOrders", fn := fun _ => fun
  | [d1, d2, d3] => { results := [.lit (.bool false)], args := [d1, d2, d3] }
  | _ => none }
def ConflictOrdersWrongFalsely : Prop := conflictOrdersRow.holds Try.pinned (OpenSpec.ofChange conflictOrdersWrong)

/-- 'fedchatlaw17.ConflictBounds': WHATEVER THE INPUT: true; the input reads as it did. -/
def conflictBoundsSpec : ChangeSpec := { name := "conflictBounds", fn := fun _ => fun
  | [d1, d2] => { results := [.lit (.bool true)], args := [d1, d2] }
  | _ => none }
def conflictBoundsRow : OpenClaim := { program := "ytabjpmleboeimaa", sum := "dd4bd9bdf3ad58678d9eec7d666c848b9362f87ff15798981b6e871d080c12a6", func := "fedchat/fedchatlaw17.ConflictBounds", spec := "conflictBounds", unfollowed := true, recurses := true, apart := false }
def ConflictBoundsSaid : Prop := conflictBoundsRow.holds Try.pinned (OpenSpec.ofChange conflictBoundsSpec)

/-- ITS FALSE NEIGHBOUR: 'it returns false'. Refute it at one input. -/
def conflictBoundsWrong : ChangeSpec := { name := "conflictBounds", fn := fun _ => fun
  | [d1, d2] => { results := [.lit (.bool false)], args := [d1, d2] }
  | _ => none }
def ConflictBoundsWrongFalsely : Prop := conflictBoundsRow.holds Try.pinned (OpenSpec.ofChange conflictBoundsWrong)

/- THE SECOND FORM. 'bulk': how many values and letters a reading holds, each counted each time it is reached (what is shared counts as often as it is met; a slice's spare places count too). A statement '..UptoSaid' is the law's where the arguments, and the package variables that the reading takes, are together of bulk at most 1048576: NARROWER than '..Said'. Prove '..Said' where nothing that the law and all that it calls make is longer than what came in: it says more and counts as full. Else prove '..UptoSaid'. A law counts once. -/
mutual
def uptoBulk {H : Type} : DataW H → Nat
  | .lit (.string bytes) => bytes.length + 1
  | .lit _ => 1
  | .nil => 1
  | .ptr d => uptoBulk d + 1
  | .slice elems spare => uptoBulkAll elems + uptoBulkAll spare + 1
  | .agg parts => uptoBulkAll parts + 1
  | .iface _ d => uptoBulk d + 1
  | .map entries => uptoBulkEntries entries + 1
  | .held _ => 1
def uptoBulkAll {H : Type} : List (DataW H) → Nat
  | [] => 0
  | d :: r => uptoBulk d + uptoBulkAll r
def uptoBulkEntries {H : Type} : List (Lit × DataW H) → Nat
  | [] => 0
  | x :: r => uptoBulkEntry x + uptoBulkEntries r
def uptoBulkEntry {H : Type} : Lit × DataW H → Nat
  | (.string bytes, d) => bytes.length + uptoBulk d + 1
  | (_, d) => uptoBulk d + 1
 end
def uptoSmall : (H : Type) → List (DataW H) → Bool := fun _ ds => decide (uptoBulkAll ds ≤ 1048576)
def OpenSpec.upto (s : _root_.Go.ChangeSpec) : _root_.Go.OpenSpec := { _root_.Go.OpenSpec.ofChange s with cond := some uptoSmall }

/-- 'fedchatlaw17.ConflictFulls', WHERE WHAT IT READS IS OF BULK AT MOST 1048576: true; the input reads as it did. -/
def conflictFullsUptoRow : OpenClaim := { program := "ytabjpmleboeimaa", sum := "dd4bd9bdf3ad58678d9eec7d666c848b9362f87ff15798981b6e871d080c12a6", func := "fedchat/fedchatlaw17.ConflictFulls", spec := "conflictFulls", unfollowed := true, recurses := true, apart := false, narrowed := true }
def ConflictFullsUptoSaid : Prop := conflictFullsUptoRow.holds Try.pinned (OpenSpec.upto conflictFullsSpec)

/-- 'fedchatlaw17.ConflictDiffers', WHERE WHAT IT READS IS OF BULK AT MOST 1048576: true; the input reads as it did. -/
def conflictDiffersUptoRow : OpenClaim := { program := "ytabjpmleboeimaa", sum := "dd4bd9bdf3ad58678d9eec7d666c848b9362f87ff15798981b6e871d080c12a6", func := "fedchat/fedchatlaw17.ConflictDiffers", spec := "conflictDiffers", unfollowed := true, recurses := true, apart := false, narrowed := true }
def ConflictDiffersUptoSaid : Prop := conflictDiffersUptoRow.holds Try.pinned (OpenSpec.upto conflictDiffersSpec)

/-- 'fedchatlaw17.ConflictOrders', WHERE WHAT IT READS IS OF BULK AT MOST 1048576: true; the input reads as it did. -/
def conflictOrdersUptoRow : OpenClaim := { program := "ytabjpmleboeimaa", sum := "dd4bd9bdf3ad58678d9eec7d666c848b9362f87ff15798981b6e871d080c12a6", func := "fedchat/fedchatlaw17.ConflictOrders", spec := "conflictOrders", unfollowed := true, recurses := true, apart := false, narrowed := true }
def ConflictOrdersUptoSaid : Prop := conflictOrdersUptoRow.holds Try.pinned (OpenSpec.upto conflictOrdersSpec)

/-- 'fedchatlaw17.ConflictBounds', WHERE WHAT IT READS IS OF BULK AT MOST 1048576: true; the input reads as it did. -/
def conflictBoundsUptoRow : OpenClaim := { program := "ytabjpmleboeimaa", sum := "dd4bd9bdf3ad58678d9eec7d666c848b9362f87ff15798981b6e871d080c12a6", func := "fedchat/fedchatlaw17.ConflictBounds", spec := "conflictBounds", unfollowed := true, recurses := true, apart := false, narrowed := true }
def ConflictBoundsUptoSaid : Prop := conflictBoundsUptoRow.holds Try.pinned (OpenSpec.upto conflictBoundsSpec)

end Rows
end Go.Proofs.Ytabjpmleboeimaa
