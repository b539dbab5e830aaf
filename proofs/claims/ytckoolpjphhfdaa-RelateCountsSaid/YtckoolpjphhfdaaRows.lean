/-
  No cell of these rows narrows 'for every input' (looked for: loops, veiled, ifaces, maps, wideKeys, modest, calm, conditions, laid).
  DERIVED. THE GIVEN ROWS OF THIS SEAT. 7 by the template 'for every input the law returns true; each argument reads behind the call as it read before'; 0 by the template 'total and deterministic' (their statements: YtckoolpjphhfdaaTotals.lean).
  GIVEN WITH THE SEED: the statements are not yours to turn. If you find one false, say at which input.
  Laid BY PROGRAM, IN A SANDBOX (cutbox-rows.mjs): the forced cells as the released guide's own fill.sh prints them over the translation eb64f34058b76954… (all of the seat's roots in one cut). By AI agents, Wed Nov 11 2026. No macro, syntax, notation, axiom, sorry.
-/
import Derived.Test.YtckoolpjphhfdaaChecked
import GoSem.Claim
import GoSem.ClaimJoined
import GoSem.ClaimMapViews
import Derived.JoinedTies
import Derived.KernelRfl
namespace Go.Proofs.Ytckoolpjphhfdaa
/- THE CELL 'sum', in the pinned program and in every row, IS THE sha256 OF THE DUMP (.gsa) THAT YtckoolpjphhfdaaProg.lean LOADS. Nothing in Lean hashes anything: it is a label: what it is worth is what the hold of that sum in a sandbox is worth. -/
noncomputable def Try.pinned : Pinned := { name := "ytckoolpjphhfdaa", sum := "eb64f34058b76954a7d968c770889b5cd1d0402c57ec6ad64cbe446691a42a04", checked := Try.checked }
namespace Rows
def none {H : Type} : Left H := { results := [], args := [] }

/-- 'fedchatlaw36.RelateOf': WHATEVER THE INPUT: true; the input reads as it did. -/
def relateOfSpec : ChangeSpec := { name := "relateOf", fn := fun _ => fun
  | [d] => { results := [.lit (.bool true)], args := [d] }
  | _ => none }
def relateOfRow : OpenClaim := { program := "ytckoolpjphhfdaa", sum := "eb64f34058b76954a7d968c770889b5cd1d0402c57ec6ad64cbe446691a42a04", func := "fedchat/fedchatlaw36.RelateOf", spec := "relateOf", inPlace := ["internal/bytealg.abigen_runtime_cmpstring"], unfollowed := true, recurses := true, plainKeys := false, apart := false }
def RelateOfSaid : Prop := relateOfRow.holds Try.pinned (OpenSpec.ofChange relateOfSpec)

/-- ITS FALSE NEIGHBOUR: 'it returns false'. Refute it at one input. -/
def relateOfWrong : ChangeSpec := { name := "relateOf", fn := fun _ => fun
  | [d] => { results := [.lit (.bool false)], args := [d] }
  | _ => none }
def RelateOfWrongFalsely : Prop := relateOfRow.holds Try.pinned (OpenSpec.ofChange relateOfWrong)

/-- 'fedchatlaw36.RelateSums': WHATEVER THE INPUT: true; the input reads as it did. -/
def relateSumsSpec : ChangeSpec := { name := "relateSums", fn := fun _ => fun
  | [d1, d2] => { results := [.lit (.bool true)], args := [d1, d2] }
  | _ => none }
def relateSumsRow : OpenClaim := { program := "ytckoolpjphhfdaa", sum := "eb64f34058b76954a7d968c770889b5cd1d0402c57ec6ad64cbe446691a42a04", func := "fedchat/fedchatlaw36.RelateSums", spec := "relateSums", inPlace := ["internal/bytealg.abigen_runtime_cmpstring"], unfollowed := true, recurses := true, plainKeys := false, apart := false }
def RelateSumsSaid : Prop := relateSumsRow.holds Try.pinned (OpenSpec.ofChange relateSumsSpec)

/-- ITS FALSE NEIGHBOUR: 'it returns false'. Refute it at one input. -/
def relateSumsWrong : ChangeSpec := { name := "relateSums", fn := fun _ => fun
  | [d1, d2] => { results := [.lit (.bool false)], args := [d1, d2] }
  | _ => none }
def RelateSumsWrongFalsely : Prop := relateSumsRow.holds Try.pinned (OpenSpec.ofChange relateSumsWrong)

/-- 'fedchatlaw36.RelateShows': WHATEVER THE INPUT: true; the input reads as it did. -/
def relateShowsSpec : ChangeSpec := { name := "relateShows", fn := fun _ => fun
  | [d1, d2] => { results := [.lit (.bool true)], args := [d1, d2] }
  | _ => none }
def relateShowsRow : OpenClaim := { program := "ytckoolpjphhfdaa", sum := "eb64f34058b76954a7d968c770889b5cd1d0402c57ec6ad64cbe446691a42a04", func := "fedchat/fedchatlaw36.RelateShows", spec := "relateShows", inPlace := ["internal/bytealg.abigen_runtime_cmpstring"], unfollowed := true, recurses := true, plainKeys := false, apart := false }
def RelateShowsSaid : Prop := relateShowsRow.holds Try.pinned (OpenSpec.ofChange relateShowsSpec)

/-- ITS FALSE NEIGHBOUR: 'it returns false'. Refute it at one input. -/
def relateShowsWrong : ChangeSpec := { name := "relateShows", fn := fun _ => fun
  | [d1, d2] => { results := [.lit (.bool false)], args := [d1, d2] }
  | _ => none }
def RelateShowsWrongFalsely : Prop := relateShowsRow.holds Try.pinned (OpenSpec.ofChange relateShowsWrong)

/-- 'fedchatlaw36.RelateValid': WHATEVER THE INPUT: true; the input reads as it did. -/
def relateValidSpec : ChangeSpec := { name := "relateValid", fn := fun _ => fun
  | [d1, d2] => { results := [.lit (.bool true)], args := [d1, d2] }
  | _ => none }
def relateValidRow : OpenClaim := { program := "ytckoolpjphhfdaa", sum := "eb64f34058b76954a7d968c770889b5cd1d0402c57ec6ad64cbe446691a42a04", func := "fedchat/fedchatlaw36.RelateValid", spec := "relateValid", inPlace := ["internal/bytealg.abigen_runtime_cmpstring"], unfollowed := true, recurses := true, plainKeys := false, apart := false }
def RelateValidSaid : Prop := relateValidRow.holds Try.pinned (OpenSpec.ofChange relateValidSpec)

/-- ITS FALSE NEIGHBOUR: 'it returns false'. Refute it at one input. -/
def relateValidWrong : ChangeSpec := { name := "relateValid", fn := fun _ => fun
  | [d1, d2] => { results := [.lit (.bool false)], args := [d1, d2] }
  | _ => none }
def RelateValidWrongFalsely : Prop := relateValidRow.holds Try.pinned (OpenSpec.ofChange relateValidWrong)

/-- 'fedchatlaw36.RelateOrder': WHATEVER THE INPUT: true; the input reads as it did. -/
def relateOrderSpec : ChangeSpec := { name := "relateOrder", fn := fun _ => fun
  | [d1, d2] => { results := [.lit (.bool true)], args := [d1, d2] }
  | _ => none }
def relateOrderRow : OpenClaim := { program := "ytckoolpjphhfdaa", sum := "eb64f34058b76954a7d968c770889b5cd1d0402c57ec6ad64cbe446691a42a04", func := "fedchat/fedchatlaw36.RelateOrder", spec := "relateOrder", inPlace := ["internal/bytealg.abigen_runtime_cmpstring"], unfollowed := true, recurses := true, plainKeys := false, apart := false }
def RelateOrderSaid : Prop := relateOrderRow.holds Try.pinned (OpenSpec.ofChange relateOrderSpec)

/-- ITS FALSE NEIGHBOUR: 'it returns false'. Refute it at one input. -/
def relateOrderWrong : ChangeSpec := { name := "relateOrder", fn := fun _ => fun
  | [d1, d2] => { results := [.lit (.bool false)], args := [d1, d2] }
  | _ => none }
def RelateOrderWrongFalsely : Prop := relateOrderRow.holds Try.pinned (OpenSpec.ofChange relateOrderWrong)

/-- 'fedchatlaw36.RelateEdits': WHATEVER THE INPUT: true; the input reads as it did. -/
def relateEditsSpec : ChangeSpec := { name := "relateEdits", fn := fun _ => fun
  | [d1, d2] => { results := [.lit (.bool true)], args := [d1, d2] }
  | _ => none }
def relateEditsRow : OpenClaim := { program := "ytckoolpjphhfdaa", sum := "eb64f34058b76954a7d968c770889b5cd1d0402c57ec6ad64cbe446691a42a04", func := "fedchat/fedchatlaw36.RelateEdits", spec := "relateEdits", inPlace := ["internal/bytealg.abigen_runtime_cmpstring"], unfollowed := true, recurses := true, plainKeys := false, apart := false }
def RelateEditsSaid : Prop := relateEditsRow.holds Try.pinned (OpenSpec.ofChange relateEditsSpec)

/-- ITS FALSE NEIGHBOUR: 'it returns false'. Refute it at one input. -/
def relateEditsWrong : ChangeSpec := { name := "relateEdits", fn := fun _ => fun
  | [d1, d2] => { results := [.lit (.bool false)], args := [d1, d2] }
  | _ => none }
def RelateEditsWrongFalsely : Prop := relateEditsRow.holds Try.pinned (OpenSpec.ofChange relateEditsWrong)

/-- 'fedchatlaw36.RelateCounts': WHATEVER THE INPUT: true; the input reads as it did. -/
def relateCountsSpec : ChangeSpec := { name := "relateCounts", fn := fun _ => fun
  | [d1, d2] => { results := [.lit (.bool true)], args := [d1, d2] }
  | _ => none }
def relateCountsRow : OpenClaim := { program := "ytckoolpjphhfdaa", sum := "eb64f34058b76954a7d968c770889b5cd1d0402c57ec6ad64cbe446691a42a04", func := "fedchat/fedchatlaw36.RelateCounts", spec := "relateCounts", inPlace := ["internal/bytealg.abigen_runtime_cmpstring"], unfollowed := true, recurses := true, plainKeys := false, apart := false }
def RelateCountsSaid : Prop := relateCountsRow.holds Try.pinned (OpenSpec.ofChange relateCountsSpec)

/-- ITS FALSE NEIGHBOUR: 'it returns false'. Refute it at one input. -/
def relateCountsWrong : ChangeSpec := { name := "relateCounts", fn := fun _ => fun
  | [d1, d2] => { results := [.lit (.bool false)], args := [d1, d2] }
  | _ => none }
def RelateCountsWrongFalsely : Prop := relateCountsRow.holds Try.pinned (OpenSpec.ofChange relateCountsWrong)

/- THE SECOND FORM. 'bulk': how many values and letters a reading holds, each counted each time it is reached (what is shared counts as often as it is met; a slice's spare places count too). A statement '..UptoSaid' is the law's where the arguments, and the package variables that the reading takes, are together of bulk at most 1048576: NARROWER than '..Said'. Prove '..Said' where nothing that the law and all that it calls make is longer than what came in: it says more and counts as full. Else prove '..UptoSaid'. A law counts once. -/
mutual
def uptoBulk {H : Type} : DataW H → Nat
  | .lit (.string bytes) => bytes.length + 1
  | .lit _ => 1
  | .nil => 1
  | .ptr d => uptoBulk d + 1
  | .slice elems spare => uptoBulkAll elems + uptoBulkAll spare + 1
  | .agg parts => uptoBulkAll parts + 1
  | .iface _ d => uptoBulk d + 1
  | .map entries => uptoBulkEntries entries + 1
  | .held _ => 1
def uptoBulkAll {H : Type} : List (DataW H) → Nat
  | [] => 0
  | d :: r => uptoBulk d + uptoBulkAll r
def uptoBulkEntries {H : Type} : List (Lit × DataW H) → Nat
  | [] => 0
  | x :: r => uptoBulkEntry x + uptoBulkEntries r
def uptoBulkEntry {H : Type} : Lit × DataW H → Nat
  | (.string bytes, d) => bytes.length + uptoBulk d + 1
  | (_, d) => uptoBulk d + 1
 end
def uptoSmall : (H : Type) → List (DataW H) → Bool := fun _ ds => decide (uptoBulkAll ds ≤ 1048576)
def OpenSpec.upto (s : _root_.Go.ChangeSpec) : _root_.Go.OpenSpec := { _root_.Go.OpenSpec.ofChange s with cond := some uptoSmall }

/-- 'fedchatlaw36.RelateOf', WHERE WHAT IT READS IS OF BULK AT MOST 1048576: true; the input reads as it did. -/
def relateOfUptoRow : OpenClaim := { program := "ytckoolpjphhfdaa", sum := "eb64f34058b76954a7d968c770889b5cd1d0402c57ec6ad64cbe446691a42a04", func := "fedchat/fedchatlaw36.RelateOf", spec := "relateOf", inPlace := ["internal/bytealg.abigen_runtime_cmpstring"], unfollowed := true, recurses := true, plainKeys := false, apart := false, narrowed := true }
def RelateOfUptoSaid : Prop := relateOfUptoRow.holds Try.pinned (OpenSpec.upto relateOfSpec)

/-- 'fedchatlaw36.RelateSums', WHERE WHAT IT READS IS OF BULK AT MOST 1048576: true; the input reads as it did. -/
def relateSumsUptoRow : OpenClaim := { program := "ytckoolpjphhfdaa", sum := "eb64f34058b76954a7d968c770889b5cd1d0402c57ec6ad64cbe446691a42a04", func := "fedchat/fedchatlaw36.RelateSums", spec := "relateSums", inPlace := ["internal/bytealg.abigen_runtime_cmpstring"], unfollowed := true, recurses := true, plainKeys := false, apart := false, narrowed := true }
def RelateSumsUptoSaid : Prop := relateSumsUptoRow.holds Try.pinned (OpenSpec.upto relateSumsSpec)

/-- 'fedchatlaw36.RelateShows', WHERE WHAT IT READS IS OF BULK AT MOST 1048576: true; the input reads as it did. -/
def relateShowsUptoRow : OpenClaim := { program := "ytckoolpjphhfdaa", sum := "eb64f34058b76954a7d968c770889b5cd1d0402c57ec6ad64cbe446691a42a04", func := "fedchat/fedchatlaw36.RelateShows", spec := "relateShows", inPlace := ["internal/bytealg.abigen_runtime_cmpstring"], unfollowed := true, recurses := true, plainKeys := false, apart := false, narrowed := true }
def RelateShowsUptoSaid : Prop := relateShowsUptoRow.holds Try.pinned (OpenSpec.upto relateShowsSpec)

/-- 'fedchatlaw36.RelateValid', WHERE WHAT IT READS IS OF BULK AT MOST 1048576: true; the input reads as it did. -/
def relateValidUptoRow : OpenClaim := { program := "ytckoolpjphhfdaa", sum := "eb64f34058b76954a7d968c770889b5cd1d0402c57ec6ad64cbe446691a42a04", func := "fedchat/fedchatlaw36.RelateValid", spec := "relateValid", inPlace := ["internal/bytealg.abigen_runtime_cmpstring"], unfollowed := true, recurses := true, plainKeys := false, apart := false, narrowed := true }
def RelateValidUptoSaid : Prop := relateValidUptoRow.holds Try.pinned (OpenSpec.upto relateValidSpec)

/-- 'fedchatlaw36.RelateOrder', WHERE WHAT IT READS IS OF BULK AT MOST 1048576: true; the input reads as it did. -/
def relateOrderUptoRow : OpenClaim := { program := "ytckoolpjphhfdaa", sum := "eb64f34058b76954a7d968c770889b5cd1d0402c57ec6ad64cbe446691a42a04", func := "fedchat/fedchatlaw36.RelateOrder", spec := "relateOrder", inPlace := ["internal/bytealg.abigen_runtime_cmpstring"], unfollowed := true, recurses := true, plainKeys := false, apart := false, narrowed := true }
def RelateOrderUptoSaid : Prop := relateOrderUptoRow.holds Try.pinned (OpenSpec.upto relateOrderSpec)

/-- 'fedchatlaw36.RelateEdits', WHERE WHAT IT READS IS OF BULK AT MOST 1048576: true; the input reads as it did. -/
def relateEditsUptoRow : OpenClaim := { program := "ytckoolpjphhfdaa", sum := "eb64f34058b76954a7d968c770889b5cd1d0402c57ec6ad64cbe446691a42a04", func := "fedchat/fedchatlaw36.RelateEdits", spec := "relateEdits", inPlace := ["internal/bytealg.abigen_runtime_cmpstring"], unfollowed := true, recurses := true, plainKeys := false, apart := false, narrowed := true }
def RelateEditsUptoSaid : Prop := relateEditsUptoRow.holds Try.pinned (OpenSpec.upto relateEditsSpec)

/-- 'fedchatlaw36.RelateCounts', WHERE WHAT IT READS IS OF BULK AT MOST 1048576: true; the input reads as it did. -/
def relateCountsUptoRow : OpenClaim := { program := "ytckoolpjphhfdaa", sum := "eb64f34058b76954a7d968c770889b5cd1d0402c57ec6ad64cbe446691a42a04", func := "fedchat/fedchatlaw36.RelateCounts", spec := "relateCounts", inPlace := ["internal/bytealg.abigen_runtime_cmpstring"], unfollowed := true, recurses := true, plainKeys := false, apart := false, narrowed := true }
def RelateCountsUptoSaid : Prop := relateCountsUptoRow.holds Try.pinned (OpenSpec.upto relateCountsSpec)

end Rows
end Go.Proofs.Ytckoolpjphhfdaa
