/-
  No cell of these rows narrows 'for every input' (looked for: loops, veiled, ifaces, maps, wideKeys, modest, calm, conditions, laid).
  DERIVED. THE GIVEN ROWS OF THIS SEAT. 7 by the template 'for every input the law returns true; each argument reads behind the call as it read before'; 0 by the template 'total and deterministic' (their statements: YtlhaopapeggefaaTotals.lean).
  GIVEN WITH THE SEED: the statements are not yours to turn. If you find one false, say at which input.
  Laid BY PROGRAM, IN A SANDBOX (cutbox-rows.mjs): the forced cells as the released guide's own fill.sh prints them over the translation b342b911bb42b6b8… (all of the seat's roots in one cut). By AI agents, Wed Nov 11 2026. No macro, syntax, notation, axiom, sorry.
-/
import Derived.Test.YtlhaopapeggefaaChecked
import GoSem.Claim
import GoSem.ClaimJoined
import GoSem.ClaimMapViews
import Derived.JoinedTies
import Derived.KernelRfl
namespace Go.Proofs.Ytlhaopapeggefaa
/- THE CELL 'sum', in the pinned program and in every row, IS THE sha256 OF THE DUMP (.gsa) THAT YtlhaopapeggefaaProg.lean LOADS. Nothing in Lean hashes anything: it is a label: what it is worth is what the hold of that sum in a sandbox is worth. -/
noncomputable def Try.pinned : Pinned := { name := "ytlhaopapeggefaa", sum := "b342b911bb42b6b888127df805990dc3cd71fef8fc1c5e0807d5a89c69716efa", checked := Try.checked }
namespace Rows
def none {H : Type} : Left H := { results := [], args := [] }

/-- 'fedchatlaw10.StatemapChecks': WHATEVER THE INPUT: true; the input reads as it did. -/
def statemapChecksSpec : ChangeSpec := { name := "statemapChecks", fn := fun _ => fun
  | [d] => { results := [.lit (.bool true)], args := [d] }
  | _ => none }
def statemapChecksRow : OpenClaim := { program := "ytlhaopapeggefaa", sum := "b342b911bb42b6b888127df805990dc3cd71fef8fc1c5e0807d5a89c69716efa", func := "fedchat/fedchatlaw10.StatemapChecks", spec := "statemapChecks", unfollowed := true, recurses := true, apart := false }
def StatemapChecksSaid : Prop := statemapChecksRow.holds Try.pinned (OpenSpec.ofChange statemapChecksSpec)

/-- ITS FALSE NEIGHBOUR: 'it returns false'. Refute it at one input. -/
def statemapChecksWrong : ChangeSpec := { name := "statemapChecks", fn := fun _ => fun
  | [d] => { results := [.lit (.bool false)], args := [d] }
  | _ => none }
def StatemapChecksWrongFalsely : Prop := statemapChecksRow.holds Try.pinned (OpenSpec.ofChange statemapChecksWrong)

/-- 'fedchatlaw10.StatemapSets': WHATEVER THE INPUT: true; the input reads as it did. -/
def statemapSetsSpec : ChangeSpec := { name := "statemapSets", fn := fun _ => fun
  | [d1, d2] => { results := [.lit (.bool true)], args := [d1, d2] }
  | _ => none }
def statemapSetsRow : OpenClaim := { program := "ytlhaopapeggefaa", sum := "b342b911bb42b6b888127df805990dc3cd71fef8fc1c5e0807d5a89c69716efa", func := "fedchat/fedchatlaw10.StatemapSets", spec := "statemapSets", unfollowed := true, recurses := true, apart := false }
def StatemapSetsSaid : Prop := statemapSetsRow.holds Try.pinned (OpenSpec.ofChange statemapSetsSpec)

/-- ITS FALSE NEIGHBOUR: 'it returns false'. Refute it at one input. -/
def statemapSetsWrong : ChangeSpec := { name := "statemapSets", fn := fun _ => fun
  | [d1, d2] => { results := [.lit (.bool false)], args := [d1, d2] }
  | _ => none }
def StatemapSetsWrongFalsely : Prop := statemapSetsRow.holds Try.pinned (OpenSpec.ofChange statemapSetsWrong)

/-- 'fedchatlaw10.StatemapPlaces': WHATEVER THE INPUT: true; the input reads as it did. -/
def statemapPlacesSpec : ChangeSpec := { name := "statemapPlaces", fn := fun _ => fun
  | [d1, d2, d3] => { results := [.lit (.bool true)], args := [d1, d2, d3] }
  | _ => none }
def statemapPlacesRow : OpenClaim := { program := "ytlhaopapeggefaa", sum := "b342b911bb42b6b888127df805990dc3cd71fef8fc1c5e0807d5a89c69716efa", func := "fedchat/fedchatlaw10.StatemapPlaces", spec := "statemapPlaces", unfollowed := true, recurses := true, apart := false }
def StatemapPlacesSaid : Prop := statemapPlacesRow.holds Try.pinned (OpenSpec.ofChange statemapPlacesSpec)

/-- ITS FALSE NEIGHBOUR: 'it returns false'. Refute it at one input. -/
def statemapPlacesWrong : ChangeSpec := { name := "statemapPlaces", fn := fun _ => fun
  | [d1, d2, d3] => { results := [.lit (.bool false)], args := [d1, d2, d3] }
  | _ => none }
def StatemapPlacesWrongFalsely : Prop := statemapPlacesRow.holds Try.pinned (OpenSpec.ofChange statemapPlacesWrong)

/-- 'fedchatlaw10.StatemapSplits': WHATEVER THE INPUT: true; the input reads as it did. -/
def statemapSplitsSpec : ChangeSpec := { name := "statemapSplits", fn := fun _ => fun
  | [d] => { results := [.lit (.bool true)], args := [d] }
  | _ => none }
def statemapSplitsRow : OpenClaim := { program := "ytlhaopapeggefaa", sum := "b342b911bb42b6b888127df805990dc3cd71fef8fc1c5e0807d5a89c69716efa", func := "fedchat/fedchatlaw10.StatemapSplits", spec := "statemapSplits", unfollowed := true, recurses := true, apart := false }
def StatemapSplitsSaid : Prop := statemapSplitsRow.holds Try.pinned (OpenSpec.ofChange statemapSplitsSpec)

/-- ITS FALSE NEIGHBOUR: 'it returns false'. Refute it at one input. -/
def statemapSplitsWrong : ChangeSpec := { name := "statemapSplits", fn := fun _ => fun
  | [d] => { results := [.lit (.bool false)], args := [d] }
  | _ => none }
def StatemapSplitsWrongFalsely : Prop := statemapSplitsRow.holds Try.pinned (OpenSpec.ofChange statemapSplitsWrong)

/-- 'fedchatlaw10.StatemapApart': WHATEVER THE INPUT: true; the input reads as it did. -/
def statemapApartSpec : ChangeSpec := { name := "statemapApart", fn := fun _ => fun
  | [d] => { results := [.lit (.bool true)], args := [d] }
  | _ => none }
def statemapApartRow : OpenClaim := { program := "ytlhaopapeggefaa", sum := "b342b911bb42b6b888127df805990dc3cd71fef8fc1c5e0807d5a89c69716efa", func := "fedchat/fedchatlaw10.StatemapApart", spec := "statemapApart", unfollowed := true, recurses := true, apart := false }
def StatemapApartSaid : Prop := statemapApartRow.holds Try.pinned (OpenSpec.ofChange statemapApartSpec)

/-- ITS FALSE NEIGHBOUR: 'it returns false'. Refute it at one input. -/
def statemapApartWrong : ChangeSpec := { name := "statemapApart", fn := fun _ => fun
  | [d] => { results := [.lit (.bool false)], args := [d] }
  | _ => none }
def StatemapApartWrongFalsely : Prop := statemapApartRow.holds Try.pinned (OpenSpec.ofChange statemapApartWrong)

/-- 'fedchatlaw10.StatemapDiffs': WHATEVER THE INPUT: true; the input reads as it did. -/
def statemapDiffsSpec : ChangeSpec := { name := "statemapDiffs", fn := fun _ => fun
  | [d1, d2] => { results := [.lit (.bool true)], args := [d1, d2] }
  | _ => none }
def statemapDiffsRow : OpenClaim := { program := "ytlhaopapeggefaa", sum := "b342b911bb42b6b888127df805990dc3cd71fef8fc1c5e0807d5a89c69716efa", func := "fedchat/fedchatlaw10.StatemapDiffs", spec := "statemapDiffs", unfollowed := true, recurses := true, apart := false }
def StatemapDiffsSaid : Prop := statemapDiffsRow.holds Try.pinned (OpenSpec.ofChange statemapDiffsSpec)

/-- ITS FALSE NEIGHBOUR: 'it returns false'. Refute it at one input. -/
def statemapDiffsWrong : ChangeSpec := { name := "statemapDiffs", fn := fun _ => fun
  | [d1, d2] => { results := [.lit (.bool false)], args := [d1, d2] }
  | _ => none }
def StatemapDiffsWrongFalsely : Prop := statemapDiffsRow.holds Try.pinned (OpenSpec.ofChange statemapDiffsWrong)

/-- 'fedchatlaw10.StatemapEvents': WHATEVER THE INPUT: true; the input reads as it did. -/
def statemapEventsSpec : ChangeSpec := { name := "statemapEvents", fn := fun _ => fun
  | [d1, d2] => { results := [.lit (.bool true)], args := [d1, d2] }
  | _ => none }
def statemapEventsRow : OpenClaim := { program := "ytlhaopapeggefaa", sum := "b342b911bb42b6b888127df805990dc3cd71fef8fc1c5e0807d5a89c69716efa", func := "fedchat/fedchatlaw10.StatemapEvents", spec := "statemapEvents", unfollowed := true, recurses := true, apart := false }
def StatemapEventsSaid : Prop := statemapEventsRow.holds Try.pinned (OpenSpec.ofChange statemapEventsSpec)

/-- ITS FALSE NEIGHBOUR: 'it returns false'. Refute it at one input. -/
def statemapEventsWrong : ChangeSpec := { name := "statemapEvents", fn := fun _ => fun
  | [d1, d2] => { results := [.lit (.bool false)], args := [d1, d2] }
  | _ => none }
def StatemapEventsWrongFalsely : Prop := statemapEventsRow.holds Try.pinned (OpenSpec.ofChange statemapEventsWrong)

/- THE SECOND FORM. 'bulk': how many values and letters a reading holds, each counted each time it is reached (what is shared counts as often as it is met; a slice's spare places count too). A statement '..UptoSaid' is the law's where the arguments, and the package variables that the reading takes, are together of bulk at most 1048576: NARROWER than '..Said'. Prove '..Said' where nothing that the law and all that it calls make is longer than what came in: it says more and counts as full. Else prove '..UptoSaid'. A law counts once. -/
mutual
def uptoBulk {H : Type} : DataW H → Nat
  | .lit (.string bytes) => bytes.length + 1
  | .lit _ => 1
  | .nil => 1
  | .ptr d => uptoBulk d + 1
  | .slice elems spare => uptoBulkAll elems + uptoBulkAll spare + 1
  | .agg parts => uptoBulkAll parts + 1
  | .iface _ d => uptoBulk d + 1
  | .map entries => uptoBulkEntries entries + 1
  | .held _ => 1
def uptoBulkAll {H : Type} : List (DataW H) → Nat
  | [] => 0
  | d :: r => uptoBulk d + uptoBulkAll r
def uptoBulkEntries {H : Type} : List (Lit × DataW H) → Nat
  | [] => 0
  | x :: r => uptoBulkEntry x + uptoBulkEntries r
def uptoBulkEntry {H : Type} : Lit × DataW H → Nat
  | (.string bytes, d) => bytes.length + uptoBulk d + 1
  | (_, d) => uptoBulk d + 1
 end
def uptoSmall : (H : Type) → List (DataW H) → Bool := fun _ ds => decide (uptoBulkAll ds ≤ 1048576)
def OpenSpec.upto (s : _root_.Go.ChangeSpec) : _root_.Go.OpenSpec := { _root_.Go.OpenSpec.ofChange s with cond := some uptoSmall }

/-- 'fedchatlaw10.StatemapChecks', WHERE WHAT IT READS IS OF BULK AT MOST 1048576: true; the input reads as it did. -/
def statemapChecksUptoRow : OpenClaim := { program := "ytlhaopapeggefaa", sum := "b342b911bb42b6b888127df805990dc3cd71fef8fc1c5e0807d5a89c69716efa", func := "fedchat/fedchatlaw10.StatemapChecks", spec := "statemapChecks", unfollowed := true, recurses := true, apart := false, narrowed := true }
def StatemapChecksUptoSaid : Prop := statemapChecksUptoRow.holds Try.pinned (OpenSpec.upto statemapChecksSpec)

/-- 'fedchatlaw10.StatemapSets', WHERE WHAT IT READS IS OF BULK AT MOST 1048576: true; the input reads as it did. -/
def statemapSetsUptoRow : OpenClaim := { program := "ytlhaopapeggefaa", sum := "b342b911bb42b6b888127df805990dc3cd71fef8fc1c5e0807d5a89c69716efa", func := "fedchat/fedchatlaw10.StatemapSets", spec := "statemapSets", unfollowed := true, recurses := true, apart := false, narrowed := true }
def StatemapSetsUptoSaid : Prop := statemapSetsUptoRow.holds Try.pinned (OpenSpec.upto statemapSetsSpec)

/-- 'fedchatlaw10.StatemapPlaces', WHERE WHAT IT READS IS OF BULK AT MOST 1048576: true; the input reads as it did. -/
def statemapPlacesUptoRow : OpenClaim := { program := "ytlhaopapeggefaa", sum := "b342b911bb42b6b888127df805990dc3cd71fef8fc1c5e0807d5a89c69716efa", func := "fedchat/fedchatlaw10.StatemapPlaces", spec := "statemapPlaces", unfollowed := true, recurses := true, apart := false, narrowed := true }
def StatemapPlacesUptoSaid : Prop := statemapPlacesUptoRow.holds Try.pinned (OpenSpec.upto statemapPlacesSpec)

/-- 'fedchatlaw10.StatemapSplits', WHERE WHAT IT READS IS OF BULK AT MOST 1048576: true; the input reads as it did. -/
def statemapSplitsUptoRow : OpenClaim := { program := "ytlhaopapeggefaa", sum := "b342b911bb42b6b888127df805990dc3cd71fef8fc1c5e0807d5a89c69716efa", func := "fedchat/fedchatlaw10.StatemapSplits", spec := "statemapSplits", unfollowed := true, recurses := true, apart := false, narrowed := true }
def StatemapSplitsUptoSaid : Prop := statemapSplitsUptoRow.holds Try.pinned (OpenSpec.upto statemapSplitsSpec)

/-- 'fedchatlaw10.StatemapApart', WHERE WHAT IT READS IS OF BULK AT MOST 1048576: true; the input reads as it did. -/
def statemapApartUptoRow : OpenClaim := { program := "ytlhaopapeggefaa", sum := "b342b911bb42b6b888127df805990dc3cd71fef8fc1c5e0807d5a89c69716efa", func := "fedchat/fedchatlaw10.StatemapApart", spec := "statemapApart", unfollowed := true, recurses := true, apart := false, narrowed := true }
def StatemapApartUptoSaid : Prop := statemapApartUptoRow.holds Try.pinned (OpenSpec.upto statemapApartSpec)

/-- 'fedchatlaw10.StatemapDiffs', WHERE WHAT IT READS IS OF BULK AT MOST 1048576: true; the input reads as it did. -/
def statemapDiffsUptoRow : OpenClaim := { program := "ytlhaopapeggefaa", sum := "b342b911bb42b6b888127df805990dc3cd71fef8fc1c5e0807d5a89c69716efa", func := "fedchat/fedchatlaw10.StatemapDiffs", spec := "statemapDiffs", unfollowed := true, recurses := true, apart := false, narrowed := true }
def StatemapDiffsUptoSaid : Prop := statemapDiffsUptoRow.holds Try.pinned (OpenSpec.upto statemapDiffsSpec)

/-- 'fedchatlaw10.StatemapEvents', WHERE WHAT IT READS IS OF BULK AT MOST 1048576: true; the input reads as it did. -/
def statemapEventsUptoRow : OpenClaim := { program := "ytlhaopapeggefaa", sum := "b342b911bb42b6b888127df805990dc3cd71fef8fc1c5e0807d5a89c69716efa", func := "fedchat/fedchatlaw10.StatemapEvents", spec := "statemapEvents", unfollowed := true, recurses := true, apart := false, narrowed := true }
def StatemapEventsUptoSaid : Prop := statemapEventsUptoRow.holds Try.pinned (OpenSpec.upto statemapEventsSpec)

end Rows
end Go.Proofs.Ytlhaopapeggefaa
