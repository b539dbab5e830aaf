/-
  No cell of these rows narrows 'for every input' (looked for: loops, veiled, ifaces, maps, wideKeys, modest, calm, conditions, laid).
  DERIVED. THE GIVEN ROWS OF THIS SEAT. 7 by the template 'for every input the law returns true; each argument reads behind the call as it read before'; 0 by the template 'total and deterministic' (their statements: YtppgiipgppeenaaTotals.lean).
  GIVEN WITH THE SEED: the statements are not yours to turn. If you find one false, say at which input.
  Laid BY PROGRAM, IN A SANDBOX (cutbox-rows.mjs): the forced cells as the released guide's own fill.sh prints them over the translation 6c725c241b409809… (all of the seat's roots in one cut). By AI agents, Wed Nov 11 2026. No macro, syntax, notation, axiom, sorry.
-/
import Derived.Test.YtppgiipgppeenaaChecked
import GoSem.Claim
import GoSem.ClaimJoined
import GoSem.ClaimMapViews
import Derived.JoinedTies
import Derived.KernelRfl
namespace Go.Proofs.Ytppgiipgppeenaa
/- THE CELL 'sum', in the pinned program and in every row, IS THE sha256 OF THE DUMP (.gsa) THAT YtppgiipgppeenaaProg.lean LOADS. Nothing in Lean hashes anything: it is a label: what it is worth is what the hold of that sum in a sandbox is worth. -/
noncomputable def Try.pinned : Pinned := { name := "ytppgiipgppeenaa", sum := "6c725c241b4098099786ba31dadb02df1027ad8e48ccb7af619745634a082e40", checked := Try.checked }
namespace Rows
def none {H : Type} : Left H := { results := [], args := [] }

/-- 'fedchatlaw18.PowerSets': WHATEVER THE INPUT: true; the input reads as it did. -/
def powerSetsSpec : ChangeSpec := { name := "powerSets", fn := fun _ => fun
  | [d1, d2, d3] => { results := [.lit (.bool true)], args := [d1, d2, d3] }
  | _ => none }
def powerSetsRow : OpenClaim := { program := "ytppgiipgppeenaa", sum := "6c725c241b4098099786ba31dadb02df1027ad8e48ccb7af619745634a082e40", func := "fedchat/fedchatlaw18.PowerSets", spec := "powerSets", unfollowed := true, recurses := true, apart := false }
def PowerSetsSaid : Prop := powerSetsRow.holds Try.pinned (OpenSpec.ofChange powerSetsSpec)

/-- ITS FALSE NEIGHBOUR: 'it returns false'. Refute it at one input. -/
def powerSetsWrong : ChangeSpec := { name := "powerSets", fn := fun _ => fun
  | [d1, d2, d3] => { results := [.lit (.bool false)], args := [d1, d2, d3] }
  | _ => none }
def PowerSetsWrongFalsely : Prop := powerSetsRow.holds Try.pinned (OpenSpec.ofChange powerSetsWrong)

/-- 'fedchatlaw18.PowerSenders': WHATEVER THE INPUT: true; the input reads as it did. -/
def powerSendersSpec : ChangeSpec := { name := "powerSenders", fn := fun _ => fun
  | [d1, d2] => { results := [.lit (.bool true)], args := [d1, d2] }
  | _ => none }
def powerSendersRow : OpenClaim := { program := "ytppgiipgppeenaa", sum := "6c725c241b4098099786ba31dadb02df1027ad8e48ccb7af619745634a082e40", func := "fedchat/fedchatlaw18.PowerSenders", spec := "powerSenders", unfollowed := true, recurses := true, apart := false }
def PowerSendersSaid : Prop := powerSendersRow.holds Try.pinned (OpenSpec.ofChange powerSendersSpec)

/-- ITS FALSE NEIGHBOUR: 'it returns false'. Refute it at one input. -/
def powerSendersWrong : ChangeSpec := { name := "powerSenders", fn := fun _ => fun
  | [d1, d2] => { results := [.lit (.bool false)], args := [d1, d2] }
  | _ => none }
def PowerSendersWrongFalsely : Prop := powerSendersRow.holds Try.pinned (OpenSpec.ofChange powerSendersWrong)

/-- 'fedchatlaw18.PowerOrders': WHATEVER THE INPUT: true; the input reads as it did. -/
def powerOrdersSpec : ChangeSpec := { name := "powerOrders", fn := fun _ => fun
  | [d1, d2] => { results := [.lit (.bool true)], args := [d1, d2] }
  | _ => none }
def powerOrdersRow : OpenClaim := { program := "ytppgiipgppeenaa", sum := "6c725c241b4098099786ba31dadb02df1027ad8e48ccb7af619745634a082e40", func := "fedchat/fedchatlaw18.PowerOrders", spec := "powerOrders", unfollowed := true, recurses := true, apart := false }
def PowerOrdersSaid : Prop := powerOrdersRow.holds Try.pinned (OpenSpec.ofChange powerOrdersSpec)

/-- ITS FALSE NEIGHBOUR: 'it returns false'. Refute it at one input. -/
def powerOrdersWrong : ChangeSpec := { name := "powerOrders", fn := fun _ => fun
  | [d1, d2] => { results := [.lit (.bool false)], args := [d1, d2] }
  | _ => none }
def PowerOrdersWrongFalsely : Prop := powerOrdersRow.holds Try.pinned (OpenSpec.ofChange powerOrdersWrong)

/-- 'fedchatlaw18.PowerSetsAgain': WHATEVER THE INPUT: true; the input reads as it did. -/
def powerSetsAgainSpec : ChangeSpec := { name := "powerSetsAgain", fn := fun _ => fun
  | [d1, d2] => { results := [.lit (.bool true)], args := [d1, d2] }
  | _ => none }
def powerSetsAgainRow : OpenClaim := { program := "ytppgiipgppeenaa", sum := "6c725c241b4098099786ba31dadb02df1027ad8e48ccb7af619745634a082e40", func := "fedchat/fedchatlaw18.PowerSetsAgain", spec := "powerSetsAgain", unfollowed := true, recurses := true, apart := false }
def PowerSetsAgainSaid : Prop := powerSetsAgainRow.holds Try.pinned (OpenSpec.ofChange powerSetsAgainSpec)

/-- ITS FALSE NEIGHBOUR: 'it returns false'. Refute it at one input. -/
def powerSetsAgainWrong : ChangeSpec := { name := "powerSetsAgain", fn := fun _ => fun
  | [d1, d2] => { results := [.lit (.bool false)], args := [d1, d2] }
  | _ => none }
def PowerSetsAgainWrongFalsely : Prop := powerSetsAgainRow.holds Try.pinned (OpenSpec.ofChange powerSetsAgainWrong)

/-- 'fedchatlaw18.PowerChains': WHATEVER THE INPUT: true; the input reads as it did. -/
def powerChainsSpec : ChangeSpec := { name := "powerChains", fn := fun _ => fun
  | [d1, d2] => { results := [.lit (.bool true)], args := [d1, d2] }
  | _ => none }
def powerChainsRow : OpenClaim := { program := "ytppgiipgppeenaa", sum := "6c725c241b4098099786ba31dadb02df1027ad8e48ccb7af619745634a082e40", func := "fedchat/fedchatlaw18.PowerChains", spec := "powerChains", unfollowed := true, recurses := true, apart := false }
def PowerChainsSaid : Prop := powerChainsRow.holds Try.pinned (OpenSpec.ofChange powerChainsSpec)

/-- ITS FALSE NEIGHBOUR: 'it returns false'. Refute it at one input. -/
def powerChainsWrong : ChangeSpec := { name := "powerChains", fn := fun _ => fun
  | [d1, d2] => { results := [.lit (.bool false)], args := [d1, d2] }
  | _ => none }
def PowerChainsWrongFalsely : Prop := powerChainsRow.holds Try.pinned (OpenSpec.ofChange powerChainsWrong)

/-- 'fedchatlaw18.PowerSame': WHATEVER THE INPUT: true; the input reads as it did. -/
def powerSameSpec : ChangeSpec := { name := "powerSame", fn := fun _ => fun
  | [d1, d2] => { results := [.lit (.bool true)], args := [d1, d2] }
  | _ => none }
def powerSameRow : OpenClaim := { program := "ytppgiipgppeenaa", sum := "6c725c241b4098099786ba31dadb02df1027ad8e48ccb7af619745634a082e40", func := "fedchat/fedchatlaw18.PowerSame", spec := "powerSame", unfollowed := true, recurses := true, apart := false }
def PowerSameSaid : Prop := powerSameRow.holds Try.pinned (OpenSpec.ofChange powerSameSpec)

/-- ITS FALSE NEIGHBOUR: 'it returns false'. Refute it at one input. -/
def powerSameWrong : ChangeSpec := { name := "powerSame", fn := fun _ => fun
  | [d1, d2] => { results := [.lit (.bool false)], args := [d1, d2] }
  | _ => none }
def PowerSameWrongFalsely : Prop := powerSameRow.holds Try.pinned (OpenSpec.ofChange powerSameWrong)

/-- 'fedchatlaw18.PowerFirst': WHATEVER THE INPUT: true; the input reads as it did. -/
def powerFirstSpec : ChangeSpec := { name := "powerFirst", fn := fun _ => fun
  | [d1, d2] => { results := [.lit (.bool true)], args := [d1, d2] }
  | _ => none }
def powerFirstRow : OpenClaim := { program := "ytppgiipgppeenaa", sum := "6c725c241b4098099786ba31dadb02df1027ad8e48ccb7af619745634a082e40", func := "fedchat/fedchatlaw18.PowerFirst", spec := "powerFirst", unfollowed := true, recurses := true, apart := false }
def PowerFirstSaid : Prop := powerFirstRow.holds Try.pinned (OpenSpec.ofChange powerFirstSpec)

/-- ITS FALSE NEIGHBOUR: 'it returns false'. Refute it at one input. -/
def powerFirstWrong : ChangeSpec := { name := "powerFirst", fn := fun _ => fun
  | [d1, d2] => { results := [.lit (.bool false)], args := [d1, d2] }
  | _ => none }
def PowerFirstWrongFalsely : Prop := powerFirstRow.holds Try.pinned (OpenSpec.ofChange powerFirstWrong)

/- THE SECOND FORM. 'bulk': how many values and letters a reading holds, each counted each time it is reached (what is shared counts as often as it is met; a slice's spare places count too). A statement '..UptoSaid' is the law's where the arguments, and the package variables that the reading takes, are together of bulk at most 1048576: NARROWER than '..Said'. Prove '..Said' where nothing that the law and all that it calls make is longer than what came in: it says more and counts as full. Else prove '..UptoSaid'. A law counts once. -/
mutual
def uptoBulk {H : Type} : DataW H → Nat
  | .lit (.string bytes) => bytes.length + 1
  | .lit _ => 1
  | .nil => 1
  | .ptr d => uptoBulk d + 1
  | .slice elems spare => uptoBulkAll elems + uptoBulkAll spare + 1
  | .agg parts => uptoBulkAll parts + 1
  | .iface _ d => uptoBulk d + 1
  | .map entries => uptoBulkEntries entries + 1
  | .held _ => 1
def uptoBulkAll {H : Type} : List (DataW H) → Nat
  | [] => 0
  | d :: r => uptoBulk d + uptoBulkAll r
def uptoBulkEntries {H : Type} : List (Lit × DataW H) → Nat
  | [] => 0
  | x :: r => uptoBulkEntry x + uptoBulkEntries r
def uptoBulkEntry {H : Type} : Lit × DataW H → Nat
  | (.string bytes, d) => bytes.length + uptoBulk d + 1
  | (_, d) => uptoBulk d + 1
 end
def uptoSmall : (H : Type) → List (DataW H) → Bool := fun _ ds => decide (uptoBulkAll ds ≤ 1048576)
def OpenSpec.upto (s : _root_.Go.ChangeSpec) : _root_.Go.OpenSpec := { _root_.Go.OpenSpec.ofChange s with cond := some uptoSmall }

/-- 'fedchatlaw18.PowerSets', WHERE WHAT IT READS IS OF BULK AT MOST 1048576: true; the input reads as it did. -/
def powerSetsUptoRow : OpenClaim := { program := "ytppgiipgppeenaa", sum := "6c725c241b4098099786ba31dadb02df1027ad8e48ccb7af619745634a082e40", func := "fedchat/fedchatlaw18.PowerSets", spec := "powerSets", unfollowed := true, recurses := true, apart := false, narrowed := true }
def PowerSetsUptoSaid : Prop := powerSetsUptoRow.holds Try.pinned (OpenSpec.upto powerSetsSpec)

/-- 'fedchatlaw18.PowerSenders', WHERE WHAT IT READS IS OF BULK AT MOST 1048576: true; the input reads as it did. -/
def powerSendersUptoRow : OpenClaim := { program := "ytppgiipgppeenaa", sum := "6c725c241b4098099786ba31dadb02df1027ad8e48ccb7af619745634a082e40", func := "fedchat/fedchatlaw18.PowerSenders", spec := "powerSenders", unfollowed := true, recurses := true, apart := false, narrowed := true }
def PowerSendersUptoSaid : Prop := powerSendersUptoRow.holds Try.pinned (OpenSpec.upto powerSendersSpec)

/-- 'fedchatlaw18.PowerOrders', WHERE WHAT IT READS IS OF BULK AT MOST 1048576: true; the input reads as it did. -/
def powerOrdersUptoRow : OpenClaim := { program := "ytppgiipgppeenaa", sum := "6c725c241b4098099786ba31dadb02df1027ad8e48ccb7af619745634a082e40", func := "fedchat/fedchatlaw18.PowerOrders", spec := "powerOrders", unfollowed := true, recurses := true, apart := false, narrowed := true }
def PowerOrdersUptoSaid : Prop := powerOrdersUptoRow.holds Try.pinned (OpenSpec.upto powerOrdersSpec)

/-- 'fedchatlaw18.PowerSetsAgain', WHERE WHAT IT READS IS OF BULK AT MOST 1048576: true; the input reads as it did. -/
def powerSetsAgainUptoRow : OpenClaim := { program := "ytppgiipgppeenaa", sum := "6c725c241b4098099786ba31dadb02df1027ad8e48ccb7af619745634a082e40", func := "fedchat/fedchatlaw18.PowerSetsAgain", spec := "powerSetsAgain", unfollowed := true, recurses := true, apart := false, narrowed := true }
def PowerSetsAgainUptoSaid : Prop := powerSetsAgainUptoRow.holds Try.pinned (OpenSpec.upto powerSetsAgainSpec)

/-- 'fedchatlaw18.PowerChains', WHERE WHAT IT READS IS OF BULK AT MOST 1048576: true; the input reads as it did. -/
def powerChainsUptoRow : OpenClaim := { program := "ytppgiipgppeenaa", sum := "6c725c241b4098099786ba31dadb02df1027ad8e48ccb7af619745634a082e40", func := "fedchat/fedchatlaw18.PowerChains", spec := "powerChains", unfollowed := true, recurses := true, apart := false, narrowed := true }
def PowerChainsUptoSaid : Prop := powerChainsUptoRow.holds Try.pinned (OpenSpec.upto powerChainsSpec)

/-- 'fedchatlaw18.PowerSame', WHERE WHAT IT READS IS OF BULK AT MOST 1048576: true; the input reads as it did. -/
def powerSameUptoRow : OpenClaim := { program := "ytppgiipgppeenaa", sum := "6c725c241b4098099786ba31dadb02df1027ad8e48ccb7af619745634a082e40", func := "fedchat/fedchatlaw18.PowerSame", spec := "powerSame", unfollowed := true, recurses := true, apart := false, narrowed := true }
def PowerSameUptoSaid : Prop := powerSameUptoRow.holds Try.pinned (OpenSpec.upto powerSameSpec)

/-- 'fedchatlaw18.PowerFirst', WHERE WHAT IT READS IS OF BULK AT MOST 1048576: true; the input reads as it did. -/
def powerFirstUptoRow : OpenClaim := { program := "ytppgiipgppeenaa", sum := "6c725c241b4098099786ba31dadb02df1027ad8e48ccb7af619745634a082e40", func := "fedchat/fedchatlaw18.PowerFirst", spec := "powerFirst", unfollowed := true, recurses := true, apart := false, narrowed := true }
def PowerFirstUptoSaid : Prop := powerFirstUptoRow.holds Try.pinned (OpenSpec.upto powerFirstSpec)

end Rows
end Go.Proofs.Ytppgiipgppeenaa
