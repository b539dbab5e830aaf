/-
  No cell of these rows narrows 'for every input' (looked for: loops, veiled, ifaces, maps, wideKeys, modest, calm, conditions, laid).
  DERIVED. THE GIVEN ROWS OF THIS SEAT. 8 by the template 'for every input the law returns true; each argument reads behind the call as it read before'; 0 by the template 'total and deterministic' (their statements: YthlcncofhnkohaaTotals.lean).
  GIVEN WITH THE SEED: the statements are not yours to turn. If you find one false, say at which input.
  Laid BY PROGRAM, IN A SANDBOX (cutbox-rows.mjs): the forced cells as the released guide's own fill.sh prints them over the translation 1fc9daf373cd17e0… (all of the seat's roots in one cut). By AI agents, Wed Nov 11 2026. No macro, syntax, notation, axiom, sorry.
-/
import Derived.Test.YthlcncofhnkohaaChecked
import GoSem.Claim
import GoSem.ClaimJoined
import GoSem.ClaimMapViews
import Derived.JoinedTies
import Derived.KernelRfl
namespace Go.Proofs.Ythlcncofhnkohaa
/- THE CELL 'sum', in the pinned program and in every row, IS THE sha256 OF THE DUMP (.gsa) THAT YthlcncofhnkohaaProg.lean LOADS. Nothing in Lean hashes anything: it is a label: what it is worth is what the hold of that sum in a sandbox is worth. -/
noncomputable def Try.pinned : Pinned := { name := "ythlcncofhnkohaa", sum := "1fc9daf373cd17e012934f36f45aec85e02cd0d73aec64c8535498b01f216ccc", checked := Try.checked }
namespace Rows
def none {H : Type} : Left H := { results := [], args := [] }

/-- 'fedchatlaw09.GraphCloses': WHATEVER THE INPUT: true; the input reads as it did. -/
def graphClosesSpec : ChangeSpec := { name := "graphCloses", fn := fun _ => fun
  | [d] => { results := [.lit (.bool true)], args := [d] }
  | _ => none }
def graphClosesRow : OpenClaim := { program := "ythlcncofhnkohaa", sum := "1fc9daf373cd17e012934f36f45aec85e02cd0d73aec64c8535498b01f216ccc", func := "fedchat/fedchatlaw09.GraphCloses", spec := "graphCloses", unfollowed := true, recurses := true, apart := false }
def GraphClosesSaid : Prop := graphClosesRow.holds Try.pinned (OpenSpec.ofChange graphClosesSpec)

/-- ITS FALSE NEIGHBOUR: 'it returns false'. Refute it at one input. -/
def graphClosesWrong : ChangeSpec := { name := "graphCloses", fn := fun _ => fun
  | [d] => { results := [.lit (.bool false)], args := [d] }
  | _ => none }
def GraphClosesWrongFalsely : Prop := graphClosesRow.holds Try.pinned (OpenSpec.ofChange graphClosesWrong)

/-- 'fedchatlaw09.GraphHeads': WHATEVER THE INPUT: true; the input reads as it did. -/
def graphHeadsSpec : ChangeSpec := { name := "graphHeads", fn := fun _ => fun
  | [d1, d2] => { results := [.lit (.bool true)], args := [d1, d2] }
  | _ => none }
def graphHeadsRow : OpenClaim := { program := "ythlcncofhnkohaa", sum := "1fc9daf373cd17e012934f36f45aec85e02cd0d73aec64c8535498b01f216ccc", func := "fedchat/fedchatlaw09.GraphHeads", spec := "graphHeads", unfollowed := true, recurses := true, apart := false }
def GraphHeadsSaid : Prop := graphHeadsRow.holds Try.pinned (OpenSpec.ofChange graphHeadsSpec)

/-- ITS FALSE NEIGHBOUR: 'it returns false'. Refute it at one input. -/
def graphHeadsWrong : ChangeSpec := { name := "graphHeads", fn := fun _ => fun
  | [d1, d2] => { results := [.lit (.bool false)], args := [d1, d2] }
  | _ => none }
def GraphHeadsWrongFalsely : Prop := graphHeadsRow.holds Try.pinned (OpenSpec.ofChange graphHeadsWrong)

/-- 'fedchatlaw09.GraphReaches': WHATEVER THE INPUT: true; the input reads as it did. -/
def graphReachesSpec : ChangeSpec := { name := "graphReaches", fn := fun _ => fun
  | [d1, d2] => { results := [.lit (.bool true)], args := [d1, d2] }
  | _ => none }
def graphReachesRow : OpenClaim := { program := "ythlcncofhnkohaa", sum := "1fc9daf373cd17e012934f36f45aec85e02cd0d73aec64c8535498b01f216ccc", func := "fedchat/fedchatlaw09.GraphReaches", spec := "graphReaches", unfollowed := true, recurses := true, apart := false }
def GraphReachesSaid : Prop := graphReachesRow.holds Try.pinned (OpenSpec.ofChange graphReachesSpec)

/-- ITS FALSE NEIGHBOUR: 'it returns false'. Refute it at one input. -/
def graphReachesWrong : ChangeSpec := { name := "graphReaches", fn := fun _ => fun
  | [d1, d2] => { results := [.lit (.bool false)], args := [d1, d2] }
  | _ => none }
def GraphReachesWrongFalsely : Prop := graphReachesRow.holds Try.pinned (OpenSpec.ofChange graphReachesWrong)

/-- 'fedchatlaw09.GraphDepths': WHATEVER THE INPUT: true; the input reads as it did. -/
def graphDepthsSpec : ChangeSpec := { name := "graphDepths", fn := fun _ => fun
  | [d1, d2, d3] => { results := [.lit (.bool true)], args := [d1, d2, d3] }
  | _ => none }
def graphDepthsRow : OpenClaim := { program := "ythlcncofhnkohaa", sum := "1fc9daf373cd17e012934f36f45aec85e02cd0d73aec64c8535498b01f216ccc", func := "fedchat/fedchatlaw09.GraphDepths", spec := "graphDepths", unfollowed := true, recurses := true, apart := false }
def GraphDepthsSaid : Prop := graphDepthsRow.holds Try.pinned (OpenSpec.ofChange graphDepthsSpec)

/-- ITS FALSE NEIGHBOUR: 'it returns false'. Refute it at one input. -/
def graphDepthsWrong : ChangeSpec := { name := "graphDepths", fn := fun _ => fun
  | [d1, d2, d3] => { results := [.lit (.bool false)], args := [d1, d2, d3] }
  | _ => none }
def GraphDepthsWrongFalsely : Prop := graphDepthsRow.holds Try.pinned (OpenSpec.ofChange graphDepthsWrong)

/-- 'fedchatlaw09.GraphRises': WHATEVER THE INPUT: true; the input reads as it did. -/
def graphRisesSpec : ChangeSpec := { name := "graphRises", fn := fun _ => fun
  | [d1, d2] => { results := [.lit (.bool true)], args := [d1, d2] }
  | _ => none }
def graphRisesRow : OpenClaim := { program := "ythlcncofhnkohaa", sum := "1fc9daf373cd17e012934f36f45aec85e02cd0d73aec64c8535498b01f216ccc", func := "fedchat/fedchatlaw09.GraphRises", spec := "graphRises", unfollowed := true, recurses := true, apart := false }
def GraphRisesSaid : Prop := graphRisesRow.holds Try.pinned (OpenSpec.ofChange graphRisesSpec)

/-- ITS FALSE NEIGHBOUR: 'it returns false'. Refute it at one input. -/
def graphRisesWrong : ChangeSpec := { name := "graphRises", fn := fun _ => fun
  | [d1, d2] => { results := [.lit (.bool false)], args := [d1, d2] }
  | _ => none }
def GraphRisesWrongFalsely : Prop := graphRisesRow.holds Try.pinned (OpenSpec.ofChange graphRisesWrong)

/-- 'fedchatlaw09.GraphSpans': WHATEVER THE INPUT: true; the input reads as it did. -/
def graphSpansSpec : ChangeSpec := { name := "graphSpans", fn := fun _ => fun
  | [d] => { results := [.lit (.bool true)], args := [d] }
  | _ => none }
def graphSpansRow : OpenClaim := { program := "ythlcncofhnkohaa", sum := "1fc9daf373cd17e012934f36f45aec85e02cd0d73aec64c8535498b01f216ccc", func := "fedchat/fedchatlaw09.GraphSpans", spec := "graphSpans", unfollowed := true, recurses := true, apart := false }
def GraphSpansSaid : Prop := graphSpansRow.holds Try.pinned (OpenSpec.ofChange graphSpansSpec)

/-- ITS FALSE NEIGHBOUR: 'it returns false'. Refute it at one input. -/
def graphSpansWrong : ChangeSpec := { name := "graphSpans", fn := fun _ => fun
  | [d] => { results := [.lit (.bool false)], args := [d] }
  | _ => none }
def GraphSpansWrongFalsely : Prop := graphSpansRow.holds Try.pinned (OpenSpec.ofChange graphSpansWrong)

/-- 'fedchatlaw09.GraphUnites': WHATEVER THE INPUT: true; the input reads as it did. -/
def graphUnitesSpec : ChangeSpec := { name := "graphUnites", fn := fun _ => fun
  | [d1, d2, d3] => { results := [.lit (.bool true)], args := [d1, d2, d3] }
  | _ => none }
def graphUnitesRow : OpenClaim := { program := "ythlcncofhnkohaa", sum := "1fc9daf373cd17e012934f36f45aec85e02cd0d73aec64c8535498b01f216ccc", func := "fedchat/fedchatlaw09.GraphUnites", spec := "graphUnites", unfollowed := true, recurses := true, apart := false }
def GraphUnitesSaid : Prop := graphUnitesRow.holds Try.pinned (OpenSpec.ofChange graphUnitesSpec)

/-- ITS FALSE NEIGHBOUR: 'it returns false'. Refute it at one input. -/
def graphUnitesWrong : ChangeSpec := { name := "graphUnites", fn := fun _ => fun
  | [d1, d2, d3] => { results := [.lit (.bool false)], args := [d1, d2, d3] }
  | _ => none }
def GraphUnitesWrongFalsely : Prop := graphUnitesRow.holds Try.pinned (OpenSpec.ofChange graphUnitesWrong)

/-- 'fedchatlaw09.GraphFollows': WHATEVER THE INPUT: true; the input reads as it did. -/
def graphFollowsSpec : ChangeSpec := { name := "graphFollows", fn := fun _ => fun
  | [d1, d2] => { results := [.lit (.bool true)], args := [d1, d2] }
  | _ => none }
def graphFollowsRow : OpenClaim := { program := "ythlcncofhnkohaa", sum := "1fc9daf373cd17e012934f36f45aec85e02cd0d73aec64c8535498b01f216ccc", func := "fedchat/fedchatlaw09.GraphFollows", spec := "graphFollows", unfollowed := true, recurses := true, apart := false }
def GraphFollowsSaid : Prop := graphFollowsRow.holds Try.pinned (OpenSpec.ofChange graphFollowsSpec)

/-- ITS FALSE NEIGHBOUR: 'it returns false'. Refute it at one input. -/
def graphFollowsWrong : ChangeSpec := { name := "graphFollows", fn := fun _ => fun
  | [d1, d2] => { results := [.lit (.bool false)], args := [d1, d2] }
  | _ => none }
def GraphFollowsWrongFalsely : Prop := graphFollowsRow.holds Try.pinned (OpenSpec.ofChange graphFollowsWrong)

/- THE SECOND FORM. 'bulk': how many values and letters a reading holds, each counted each time it is reached (what is shared counts as often as it is met; a slice's spare places count too). A statement '..UptoSaid' is the law's where the arguments, and the package variables that the reading takes, are together of bulk at most 1048576: NARROWER than '..Said'. Prove '..Said' where nothing that the law and all that it calls make is longer than what came in: it says more and counts as full. Else prove '..UptoSaid'. A law counts once. -/
mutual
def uptoBulk {H : Type} : DataW H → Nat
  | .lit (.string bytes) => bytes.length + 1
  | .lit _ => 1
  | .nil => 1
  | .ptr d => uptoBulk d + 1
  | .slice elems spare => uptoBulkAll elems + uptoBulkAll spare + 1
  | .agg parts => uptoBulkAll parts + 1
  | .iface _ d => uptoBulk d + 1
  | .map entries => uptoBulkEntries entries + 1
  | .held _ => 1
def uptoBulkAll {H : Type} : List (DataW H) → Nat
  | [] => 0
  | d :: r => uptoBulk d + uptoBulkAll r
def uptoBulkEntries {H : Type} : List (Lit × DataW H) → Nat
  | [] => 0
  | x :: r => uptoBulkEntry x + uptoBulkEntries r
def uptoBulkEntry {H : Type} : Lit × DataW H → Nat
  | (.string bytes, d) => bytes.length + uptoBulk d + 1
  | (_, d) => uptoBulk d + 1
 end
def uptoSmall : (H : Type) → List (DataW H) → Bool := fun _ ds => decide (uptoBulkAll ds ≤ 1048576)
def OpenSpec.upto (s : _root_.Go.ChangeSpec) : _root_.Go.OpenSpec := { _root_.Go.OpenSpec.ofChange s with cond := some uptoSmall }

/-- 'fedchatlaw09.GraphCloses', WHERE WHAT IT READS IS OF BULK AT MOST 1048576: true; the input reads as it did. -/
def graphClosesUptoRow : OpenClaim := { program := "ythlcncofhnkohaa", sum := "1fc9daf373cd17e012934f36f45aec85e02cd0d73aec64c8535498b01f216ccc", func := "fedchat/fedchatlaw09.GraphCloses", spec := "graphCloses", unfollowed := true, recurses := true, apart := false, narrowed := true }
def GraphClosesUptoSaid : Prop := graphClosesUptoRow.holds Try.pinned (OpenSpec.upto graphClosesSpec)

/-- 'fedchatlaw09.GraphHeads', WHERE WHAT IT READS IS OF BULK AT MOST 1048576: true; the input reads as it did. -/
def graphHeadsUptoRow : OpenClaim := { program := "ythlcncofhnkohaa", sum := "1fc9daf373cd17e012934f36f45aec85e02cd0d73aec64c8535498b01f216ccc", func := "fedchat/fedchatlaw09.GraphHeads", spec := "graphHeads", unfollowed := true, recurses := true, apart := false, narrowed := true }
def GraphHeadsUptoSaid : Prop := graphHeadsUptoRow.holds Try.pinned (OpenSpec.upto graphHeadsSpec)

/-- 'fedchatlaw09.GraphReaches', WHERE WHAT IT READS IS OF BULK AT MOST 1048576: true; the input reads as it did. -/
def graphReachesUptoRow : OpenClaim := { program := "ythlcncofhnkohaa", sum := "1fc9daf373cd17e012934f36f45aec85e02cd0d73aec64c8535498b01f216ccc", func := "fedchat/fedchatlaw09.GraphReaches", spec := "graphReaches", unfollowed := true, recurses := true, apart := false, narrowed := true }
def GraphReachesUptoSaid : Prop := graphReachesUptoRow.holds Try.pinned (OpenSpec.upto graphReachesSpec)

/-- 'fedchatlaw09.GraphDepths', WHERE WHAT IT READS IS OF BULK AT MOST 1048576: true; the input reads as it did. -/
def graphDepthsUptoRow : OpenClaim := { program := "ythlcncofhnkohaa", sum := "1fc9daf373cd17e012934f36f45aec85e02cd0d73aec64c8535498b01f216ccc", func := "fedchat/fedchatlaw09.GraphDepths", spec := "graphDepths", unfollowed := true, recurses := true, apart := false, narrowed := true }
def GraphDepthsUptoSaid : Prop := graphDepthsUptoRow.holds Try.pinned (OpenSpec.upto graphDepthsSpec)

/-- 'fedchatlaw09.GraphRises', WHERE WHAT IT READS IS OF BULK AT MOST 1048576: true; the input reads as it did. -/
def graphRisesUptoRow : OpenClaim := { program := "ythlcncofhnkohaa", sum := "1fc9daf373cd17e012934f36f45aec85e02cd0d73aec64c8535498b01f216ccc", func := "fedchat/fedchatlaw09.GraphRises", spec := "graphRises", unfollowed := true, recurses := true, apart := false, narrowed := true }
def GraphRisesUptoSaid : Prop := graphRisesUptoRow.holds Try.pinned (OpenSpec.upto graphRisesSpec)

/-- 'fedchatlaw09.GraphSpans', WHERE WHAT IT READS IS OF BULK AT MOST 1048576: true; the input reads as it did. -/
def graphSpansUptoRow : OpenClaim := { program := "ythlcncofhnkohaa", sum := "1fc9daf373cd17e012934f36f45aec85e02cd0d73aec64c8535498b01f216ccc", func := "fedchat/fedchatlaw09.GraphSpans", spec := "graphSpans", unfollowed := true, recurses := true, apart := false, narrowed := true }
def GraphSpansUptoSaid : Prop := graphSpansUptoRow.holds Try.pinned (OpenSpec.upto graphSpansSpec)

/-- 'fedchatlaw09.GraphUnites', WHERE WHAT IT READS IS OF BULK AT MOST 1048576: true; the input reads as it did. -/
def graphUnitesUptoRow : OpenClaim := { program := "ythlcncofhnkohaa", sum := "1fc9daf373cd17e012934f36f45aec85e02cd0d73aec64c8535498b01f216ccc", func := "fedchat/fedchatlaw09.GraphUnites", spec := "graphUnites", unfollowed := true, recurses := true, apart := false, narrowed := true }
def GraphUnitesUptoSaid : Prop := graphUnitesUptoRow.holds Try.pinned (OpenSpec.upto graphUnitesSpec)

/-- 'fedchatlaw09.GraphFollows', WHERE WHAT IT READS IS OF BULK AT MOST 1048576: true; the input reads as it did. -/
def graphFollowsUptoRow : OpenClaim := { program := "ythlcncofhnkohaa", sum := "1fc9daf373cd17e012934f36f45aec85e02cd0d73aec64c8535498b01f216ccc", func := "fedchat/fedchatlaw09.GraphFollows", spec := "graphFollows", unfollowed := true, recurses := true, apart := false, narrowed := true }
def GraphFollowsUptoSaid : Prop := graphFollowsUptoRow.holds Try.pinned (OpenSpec.upto graphFollowsSpec)

end Rows
end Go.Proofs.Ythlcncofhnkohaa
