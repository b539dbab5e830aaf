/-
  No cell of these rows narrows 'for every input' (looked for: loops, veiled, ifaces, maps, wideKeys, modest, calm, conditions, laid).
  DERIVED. THE GIVEN ROWS OF THIS SEAT. 8 by the template 'for every input the law returns true; each argument reads behind the call as it read before'; 0 by the template 'total and deterministic' (their statements: YtahpcfdhlgcinaaTotals.lean).
  GIVEN WITH THE SEED: the statements are not yours to turn. If you find one false, say at which input.
  Laid BY PROGRAM, IN A SANDBOX (cutbox-rows.mjs): the forced cells as the released guide's own fill.sh prints them over the translation 100983452cf4e64d… (all of the seat's roots in one cut). By AI agents, Wed Nov 11 2026. No macro, syntax, notation, axiom, sorry.
-/
import Derived.Test.YtahpcfdhlgcinaaChecked
import GoSem.Claim
import GoSem.ClaimJoined
import GoSem.ClaimMapViews
import Derived.JoinedTies
import Derived.KernelRfl
namespace Go.Proofs.Ytahpcfdhlgcinaa
/- THE CELL 'sum', in the pinned program and in every row, IS THE sha256 OF THE DUMP (.gsa) THAT YtahpcfdhlgcinaaProg.lean LOADS. Nothing in Lean hashes anything: it is a label: what it is worth is what the hold of that sum in a sandbox is worth. -/
noncomputable def Try.pinned : Pinned := { name := "ytahpcfdhlgcinaa", sum := "100983452cf4e64dce5f7667aeaf3b574a0f7f4f2e77110fdcea2b1f04b6f059", checked := Try.checked }
namespace Rows
def none {H : Type} : Left H := { results := [], args := [] }

/-- 'fedchatlaw01.NumClips': WHATEVER THE INPUT: true; the input reads as it did. -/
def numClipsSpec : ChangeSpec := { name := "numClips", fn := fun _ => fun
  | [d1, d2, d3] => { results := [.lit (.bool true)], args := [d1, d2, d3] }
  | _ => none }
def numClipsRow : OpenClaim := { program := "ytahpcfdhlgcinaa", sum := "100983452cf4e64dce5f7667aeaf3b574a0f7f4f2e77110fdcea2b1f04b6f059", func := "fedchat/fedchatlaw01.NumClips", spec := "numClips", recurses := true, apart := false }
def NumClipsSaid : Prop := numClipsRow.holds Try.pinned (OpenSpec.ofChange numClipsSpec)

/-- ITS FALSE NEIGHBOUR: 'it returns false'. Refute it at one input. -/
def numClipsWrong : ChangeSpec := { name := "numClips", fn := fun _ => fun
  | [d1, d2, d3] => { results := [.lit (.bool false)], args := [d1, d2, d3] }
  | _ => none }
def NumClipsWrongFalsely : Prop := numClipsRow.holds Try.pinned (OpenSpec.ofChange numClipsWrong)

/-- 'fedchatlaw01.NumNearest': WHATEVER THE INPUT: true; the input reads as it did. -/
def numNearestSpec : ChangeSpec := { name := "numNearest", fn := fun _ => fun
  | [d1, d2, d3] => { results := [.lit (.bool true)], args := [d1, d2, d3] }
  | _ => none }
def numNearestRow : OpenClaim := { program := "ytahpcfdhlgcinaa", sum := "100983452cf4e64dce5f7667aeaf3b574a0f7f4f2e77110fdcea2b1f04b6f059", func := "fedchat/fedchatlaw01.NumNearest", spec := "numNearest", recurses := true, apart := false }
def NumNearestSaid : Prop := numNearestRow.holds Try.pinned (OpenSpec.ofChange numNearestSpec)

/-- ITS FALSE NEIGHBOUR: 'it returns false'. Refute it at one input. -/
def numNearestWrong : ChangeSpec := { name := "numNearest", fn := fun _ => fun
  | [d1, d2, d3] => { results := [.lit (.bool false)], args := [d1, d2, d3] }
  | _ => none }
def NumNearestWrongFalsely : Prop := numNearestRow.holds Try.pinned (OpenSpec.ofChange numNearestWrong)

/-- 'fedchatlaw01.NumTexts': WHATEVER THE INPUT: true; the input reads as it did. -/
def numTextsSpec : ChangeSpec := { name := "numTexts", fn := fun _ => fun
  | [d] => { results := [.lit (.bool true)], args := [d] }
  | _ => none }
def numTextsRow : OpenClaim := { program := "ytahpcfdhlgcinaa", sum := "100983452cf4e64dce5f7667aeaf3b574a0f7f4f2e77110fdcea2b1f04b6f059", func := "fedchat/fedchatlaw01.NumTexts", spec := "numTexts", recurses := true, apart := false }
def NumTextsSaid : Prop := numTextsRow.holds Try.pinned (OpenSpec.ofChange numTextsSpec)

/-- ITS FALSE NEIGHBOUR: 'it returns false'. Refute it at one input. -/
def numTextsWrong : ChangeSpec := { name := "numTexts", fn := fun _ => fun
  | [d] => { results := [.lit (.bool false)], args := [d] }
  | _ => none }
def NumTextsWrongFalsely : Prop := numTextsRow.holds Try.pinned (OpenSpec.ofChange numTextsWrong)

/-- 'fedchatlaw01.NumParses': WHATEVER THE INPUT: true; the input reads as it did. -/
def numParsesSpec : ChangeSpec := { name := "numParses", fn := fun _ => fun
  | [d] => { results := [.lit (.bool true)], args := [d] }
  | _ => none }
def numParsesRow : OpenClaim := { program := "ytahpcfdhlgcinaa", sum := "100983452cf4e64dce5f7667aeaf3b574a0f7f4f2e77110fdcea2b1f04b6f059", func := "fedchat/fedchatlaw01.NumParses", spec := "numParses", recurses := true, apart := false }
def NumParsesSaid : Prop := numParsesRow.holds Try.pinned (OpenSpec.ofChange numParsesSpec)

/-- ITS FALSE NEIGHBOUR: 'it returns false'. Refute it at one input. -/
def numParsesWrong : ChangeSpec := { name := "numParses", fn := fun _ => fun
  | [d] => { results := [.lit (.bool false)], args := [d] }
  | _ => none }
def NumParsesWrongFalsely : Prop := numParsesRow.holds Try.pinned (OpenSpec.ofChange numParsesWrong)

/-- 'fedchatlaw01.NumLists': WHATEVER THE INPUT: true; the input reads as it did. -/
def numListsSpec : ChangeSpec := { name := "numLists", fn := fun _ => fun
  | [d1, d2] => { results := [.lit (.bool true)], args := [d1, d2] }
  | _ => none }
def numListsRow : OpenClaim := { program := "ytahpcfdhlgcinaa", sum := "100983452cf4e64dce5f7667aeaf3b574a0f7f4f2e77110fdcea2b1f04b6f059", func := "fedchat/fedchatlaw01.NumLists", spec := "numLists", recurses := true, apart := false }
def NumListsSaid : Prop := numListsRow.holds Try.pinned (OpenSpec.ofChange numListsSpec)

/-- ITS FALSE NEIGHBOUR: 'it returns false'. Refute it at one input. -/
def numListsWrong : ChangeSpec := { name := "numLists", fn := fun _ => fun
  | [d1, d2] => { results := [.lit (.bool false)], args := [d1, d2] }
  | _ => none }
def NumListsWrongFalsely : Prop := numListsRow.holds Try.pinned (OpenSpec.ofChange numListsWrong)

/-- 'fedchatlaw01.NumSets': WHATEVER THE INPUT: true; the input reads as it did. -/
def numSetsSpec : ChangeSpec := { name := "numSets", fn := fun _ => fun
  | [d1, d2] => { results := [.lit (.bool true)], args := [d1, d2] }
  | _ => none }
def numSetsRow : OpenClaim := { program := "ytahpcfdhlgcinaa", sum := "100983452cf4e64dce5f7667aeaf3b574a0f7f4f2e77110fdcea2b1f04b6f059", func := "fedchat/fedchatlaw01.NumSets", spec := "numSets", recurses := true, apart := false }
def NumSetsSaid : Prop := numSetsRow.holds Try.pinned (OpenSpec.ofChange numSetsSpec)

/-- ITS FALSE NEIGHBOUR: 'it returns false'. Refute it at one input. -/
def numSetsWrong : ChangeSpec := { name := "numSets", fn := fun _ => fun
  | [d1, d2] => { results := [.lit (.bool false)], args := [d1, d2] }
  | _ => none }
def NumSetsWrongFalsely : Prop := numSetsRow.holds Try.pinned (OpenSpec.ofChange numSetsWrong)

/-- 'fedchatlaw01.NumOnce': WHATEVER THE INPUT: true; the input reads as it did. -/
def numOnceSpec : ChangeSpec := { name := "numOnce", fn := fun _ => fun
  | [d] => { results := [.lit (.bool true)], args := [d] }
  | _ => none }
def numOnceRow : OpenClaim := { program := "ytahpcfdhlgcinaa", sum := "100983452cf4e64dce5f7667aeaf3b574a0f7f4f2e77110fdcea2b1f04b6f059", func := "fedchat/fedchatlaw01.NumOnce", spec := "numOnce", recurses := true, apart := false }
def NumOnceSaid : Prop := numOnceRow.holds Try.pinned (OpenSpec.ofChange numOnceSpec)

/-- ITS FALSE NEIGHBOUR: 'it returns false'. Refute it at one input. -/
def numOnceWrong : ChangeSpec := { name := "numOnce", fn := fun _ => fun
  | [d] => { results := [.lit (.bool false)], args := [d] }
  | _ => none }
def NumOnceWrongFalsely : Prop := numOnceRow.holds Try.pinned (OpenSpec.ofChange numOnceWrong)

/-- 'fedchatlaw01.NumParts': WHATEVER THE INPUT: true; the input reads as it did. -/
def numPartsSpec : ChangeSpec := { name := "numParts", fn := fun _ => fun
  | [d1, d2] => { results := [.lit (.bool true)], args := [d1, d2] }
  | _ => none }
def numPartsRow : OpenClaim := { program := "ytahpcfdhlgcinaa", sum := "100983452cf4e64dce5f7667aeaf3b574a0f7f4f2e77110fdcea2b1f04b6f059", func := "fedchat/fedchatlaw01.NumParts", spec := "numParts", recurses := true, apart := false }
def NumPartsSaid : Prop := numPartsRow.holds Try.pinned (OpenSpec.ofChange numPartsSpec)

/-- ITS FALSE NEIGHBOUR: 'it returns false'. Refute it at one input. -/
def numPartsWrong : ChangeSpec := { name := "numParts", fn := fun _ => fun
  | [d1, d2] => { results := [.lit (.bool false)], args := [d1, d2] }
  | _ => none }
def NumPartsWrongFalsely : Prop := numPartsRow.holds Try.pinned (OpenSpec.ofChange numPartsWrong)

/- THE SECOND FORM. 'bulk': how many values and letters a reading holds, each counted each time it is reached (what is shared counts as often as it is met; a slice's spare places count too). A statement '..UptoSaid' is the law's where the arguments, and the package variables that the reading takes, are together of bulk at most 1048576: NARROWER than '..Said'. Prove '..Said' where nothing that the law and all that it calls make is longer than what came in: it says more and counts as full. Else prove '..UptoSaid'. A law counts once. -/
mutual
def uptoBulk {H : Type} : DataW H → Nat
  | .lit (.string bytes) => bytes.length + 1
  | .lit _ => 1
  | .nil => 1
  | .ptr d => uptoBulk d + 1
  | .slice elems spare => uptoBulkAll elems + uptoBulkAll spare + 1
  | .agg parts => uptoBulkAll parts + 1
  | .iface _ d => uptoBulk d + 1
  | .map entries => uptoBulkEntries entries + 1
  | .held _ => 1
def uptoBulkAll {H : Type} : List (DataW H) → Nat
  | [] => 0
  | d :: r => uptoBulk d + uptoBulkAll r
def uptoBulkEntries {H : Type} : List (Lit × DataW H) → Nat
  | [] => 0
  | x :: r => uptoBulkEntry x + uptoBulkEntries r
def uptoBulkEntry {H : Type} : Lit × DataW H → Nat
  | (.string bytes, d) => bytes.length + uptoBulk d + 1
  | (_, d) => uptoBulk d + 1
 end
def uptoSmall : (H : Type) → List (DataW H) → Bool := fun _ ds => decide (uptoBulkAll ds ≤ 1048576)
def OpenSpec.upto (s : _root_.Go.ChangeSpec) : _root_.Go.OpenSpec := { _root_.Go.OpenSpec.ofChange s with cond := some uptoSmall }

/-- 'fedchatlaw01.NumClips', WHERE WHAT IT READS IS OF BULK AT MOST 1048576: true; the input reads as it did. -/
def numClipsUptoRow : OpenClaim := { program := "ytahpcfdhlgcinaa", sum := "100983452cf4e64dce5f7667aeaf3b574a0f7f4f2e77110fdcea2b1f04b6f059", func := "fedchat/fedchatlaw01.NumClips", spec := "numClips", recurses := true, apart := false, narrowed := true }
def NumClipsUptoSaid : Prop := numClipsUptoRow.holds Try.pinned (OpenSpec.upto numClipsSpec)

/-- 'fedchatlaw01.NumNearest', WHERE WHAT IT READS IS OF BULK AT MOST 1048576: true; the input reads as it did. -/
def numNearestUptoRow : OpenClaim := { program := "ytahpcfdhlgcinaa", sum := "100983452cf4e64dce5f7667aeaf3b574a0f7f4f2e77110fdcea2b1f04b6f059", func := "fedchat/fedchatlaw01.NumNearest", spec := "numNearest", recurses := true, apart := false, narrowed := true }
def NumNearestUptoSaid : Prop := numNearestUptoRow.holds Try.pinned (OpenSpec.upto numNearestSpec)

/-- 'fedchatlaw01.NumTexts', WHERE WHAT IT READS IS OF BULK AT MOST 1048576: true; the input reads as it did. -/
def numTextsUptoRow : OpenClaim := { program := "ytahpcfdhlgcinaa", sum := "100983452cf4e64dce5f7667aeaf3b574a0f7f4f2e77110fdcea2b1f04b6f059", func := "fedchat/fedchatlaw01.NumTexts", spec := "numTexts", recurses := true, apart := false, narrowed := true }
def NumTextsUptoSaid : Prop := numTextsUptoRow.holds Try.pinned (OpenSpec.upto numTextsSpec)

/-- 'fedchatlaw01.NumParses', WHERE WHAT IT READS IS OF BULK AT MOST 1048576: true; the input reads as it did. -/
def numParsesUptoRow : OpenClaim := { program := "ytahpcfdhlgcinaa", sum := "100983452cf4e64dce5f7667aeaf3b574a0f7f4f2e77110fdcea2b1f04b6f059", func := "fedchat/fedchatlaw01.NumParses", spec := "numParses", recurses := true, apart := false, narrowed := true }
def NumParsesUptoSaid : Prop := numParsesUptoRow.holds Try.pinned (OpenSpec.upto numParsesSpec)

/-- 'fedchatlaw01.NumLists', WHERE WHAT IT READS IS OF BULK AT MOST 1048576: true; the input reads as it did. -/
def numListsUptoRow : OpenClaim := { program := "ytahpcfdhlgcinaa", sum := "100983452cf4e64dce5f7667aeaf3b574a0f7f4f2e77110fdcea2b1f04b6f059", func := "fedchat/fedchatlaw01.NumLists", spec := "numLists", recurses := true, apart := false, narrowed := true }
def NumListsUptoSaid : Prop := numListsUptoRow.holds Try.pinned (OpenSpec.upto numListsSpec)

/-- 'fedchatlaw01.NumSets', WHERE WHAT IT READS IS OF BULK AT MOST 1048576: true; the input reads as it did. -/
def numSetsUptoRow : OpenClaim := { program := "ytahpcfdhlgcinaa", sum := "100983452cf4e64dce5f7667aeaf3b574a0f7f4f2e77110fdcea2b1f04b6f059", func := "fedchat/fedchatlaw01.NumSets", spec := "numSets", recurses := true, apart := false, narrowed := true }
def NumSetsUptoSaid : Prop := numSetsUptoRow.holds Try.pinned (OpenSpec.upto numSetsSpec)

/-- 'fedchatlaw01.NumOnce', WHERE WHAT IT READS IS OF BULK AT MOST 1048576: true; the input reads as it did. -/
def numOnceUptoRow : OpenClaim := { program := "ytahpcfdhlgcinaa", sum := "100983452cf4e64dce5f7667aeaf3b574a0f7f4f2e77110fdcea2b1f04b6f059", func := "fedchat/fedchatlaw01.NumOnce", spec := "numOnce", recurses := true, apart := false, narrowed := true }
def NumOnceUptoSaid : Prop := numOnceUptoRow.holds Try.pinned (OpenSpec.upto numOnceSpec)

/-- 'fedchatlaw01.NumParts', WHERE WHAT IT READS IS OF BULK AT MOST 1048576: true; the input reads as it did. -/
def numPartsUptoRow : OpenClaim := { program := "ytahpcfdhlgcinaa", sum := "100983452cf4e64dce5f7667aeaf3b574a0f7f4f2e77110fdcea2b1f04b6f059", func := "fedchat/fedchatlaw01.NumParts", spec := "numParts", recurses := true, apart := false, narrowed := true }
def NumPartsUptoSaid : Prop := numPartsUptoRow.holds Try.pinned (OpenSpec.upto numPartsSpec)

end Rows
end Go.Proofs.Ytahpcfdhlgcinaa
