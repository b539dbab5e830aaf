/-
  No cell of these rows narrows 'for every input' (looked for: loops, veiled, ifaces, maps, wideKeys, modest, calm, conditions, laid).
  DERIVED. THE GIVEN ROWS OF THIS SEAT. 7 by the template 'for every input the law returns true; each argument reads behind the call as it read before'; 0 by the template 'total and deterministic' (their statements: YtebggldlhohkpaaTotals.lean).
  GIVEN WITH THE SEED: the statements are not yours to turn. If you find one false, say at which input.
  Laid BY PROGRAM, IN A SANDBOX (cutbox-rows.mjs): the forced cells as the released guide's own fill.sh prints them over the translation 340347d5005a03c3… (all of the seat's roots in one cut). By AI agents, Wed Nov 11 2026. No macro, syntax, notation, axiom, sorry.
-/
import Derived.Test.YtebggldlhohkpaaChecked
import GoSem.Claim
import GoSem.ClaimJoined
import GoSem.ClaimMapViews
import Derived.JoinedTies
import Derived.KernelRfl
namespace Go.Proofs.Ytebggldlhohkpaa
/- THE CELL 'sum', in the pinned program and in every row, IS THE sha256 OF THE DUMP (.gsa) THAT YtebggldlhohkpaaProg.lean LOADS. Nothing in Lean hashes anything: it is a label: what it is worth is what the hold of that sum in a sandbox is worth. -/
noncomputable def Try.pinned : Pinned := { name := "ytebggldlhohkpaa", sum := "340347d5005a03c33cf5ef8b083687b69d287ee5c145b590e8d4c0c2f41b76f3", checked := Try.checked }
namespace Rows
def none {H : Type} : Left H := { results := [], args := [] }

/-- 'fedchatlaw15.AuthsetKeys': WHATEVER THE INPUT: true; the input reads as it did. -/
def authsetKeysSpec : ChangeSpec := { name := "authsetKeys", fn := fun _ => fun
  | [d] => { results := [.lit (.bool true)], args := [d] }
  | _ => none }
def authsetKeysRow : OpenClaim := { program := "ytebggldlhohkpaa", sum := "340347d5005a03c33cf5ef8b083687b69d287ee5c145b590e8d4c0c2f41b76f3", func := "fedchat/fedchatlaw15.AuthsetKeys", spec := "authsetKeys", unfollowed := true, recurses := true, apart := false }
def AuthsetKeysSaid : Prop := authsetKeysRow.holds Try.pinned (OpenSpec.ofChange authsetKeysSpec)

/-- ITS FALSE NEIGHBOUR: 'it returns false'. Refute it at one input. -/
def authsetKeysWrong : ChangeSpec := { name := "authsetKeys", fn := fun _ => fun
  | [d] => { results := [.lit (.bool false)], args := [d] }
  | _ => none }
def AuthsetKeysWrongFalsely : Prop := authsetKeysRow.holds Try.pinned (OpenSpec.ofChange authsetKeysWrong)

/-- 'fedchatlaw15.AuthsetSelects': WHATEVER THE INPUT: true; the input reads as it did. -/
def authsetSelectsSpec : ChangeSpec := { name := "authsetSelects", fn := fun _ => fun
  | [d1, d2] => { results := [.lit (.bool true)], args := [d1, d2] }
  | _ => none }
def authsetSelectsRow : OpenClaim := { program := "ytebggldlhohkpaa", sum := "340347d5005a03c33cf5ef8b083687b69d287ee5c145b590e8d4c0c2f41b76f3", func := "fedchat/fedchatlaw15.AuthsetSelects", spec := "authsetSelects", unfollowed := true, recurses := true, apart := false }
def AuthsetSelectsSaid : Prop := authsetSelectsRow.holds Try.pinned (OpenSpec.ofChange authsetSelectsSpec)

/-- ITS FALSE NEIGHBOUR: 'it returns false'. Refute it at one input. -/
def authsetSelectsWrong : ChangeSpec := { name := "authsetSelects", fn := fun _ => fun
  | [d1, d2] => { results := [.lit (.bool false)], args := [d1, d2] }
  | _ => none }
def AuthsetSelectsWrongFalsely : Prop := authsetSelectsRow.holds Try.pinned (OpenSpec.ofChange authsetSelectsWrong)

/-- 'fedchatlaw15.AuthsetFits': WHATEVER THE INPUT: true; the input reads as it did. -/
def authsetFitsSpec : ChangeSpec := { name := "authsetFits", fn := fun _ => fun
  | [d1, d2] => { results := [.lit (.bool true)], args := [d1, d2] }
  | _ => none }
def authsetFitsRow : OpenClaim := { program := "ytebggldlhohkpaa", sum := "340347d5005a03c33cf5ef8b083687b69d287ee5c145b590e8d4c0c2f41b76f3", func := "fedchat/fedchatlaw15.AuthsetFits", spec := "authsetFits", unfollowed := true, recurses := true, apart := false }
def AuthsetFitsSaid : Prop := authsetFitsRow.holds Try.pinned (OpenSpec.ofChange authsetFitsSpec)

/-- ITS FALSE NEIGHBOUR: 'it returns false'. Refute it at one input. -/
def authsetFitsWrong : ChangeSpec := { name := "authsetFits", fn := fun _ => fun
  | [d1, d2] => { results := [.lit (.bool false)], args := [d1, d2] }
  | _ => none }
def AuthsetFitsWrongFalsely : Prop := authsetFitsRow.holds Try.pinned (OpenSpec.ofChange authsetFitsWrong)

/-- 'fedchatlaw15.AuthsetFroms': WHATEVER THE INPUT: true; the input reads as it did. -/
def authsetFromsSpec : ChangeSpec := { name := "authsetFroms", fn := fun _ => fun
  | [d1, d2] => { results := [.lit (.bool true)], args := [d1, d2] }
  | _ => none }
def authsetFromsRow : OpenClaim := { program := "ytebggldlhohkpaa", sum := "340347d5005a03c33cf5ef8b083687b69d287ee5c145b590e8d4c0c2f41b76f3", func := "fedchat/fedchatlaw15.AuthsetFroms", spec := "authsetFroms", unfollowed := true, recurses := true, apart := false }
def AuthsetFromsSaid : Prop := authsetFromsRow.holds Try.pinned (OpenSpec.ofChange authsetFromsSpec)

/-- ITS FALSE NEIGHBOUR: 'it returns false'. Refute it at one input. -/
def authsetFromsWrong : ChangeSpec := { name := "authsetFroms", fn := fun _ => fun
  | [d1, d2] => { results := [.lit (.bool false)], args := [d1, d2] }
  | _ => none }
def AuthsetFromsWrongFalsely : Prop := authsetFromsRow.holds Try.pinned (OpenSpec.ofChange authsetFromsWrong)

/-- 'fedchatlaw15.AuthsetMade': WHATEVER THE INPUT: true; the input reads as it did. -/
def authsetMadeSpec : ChangeSpec := { name := "authsetMade", fn := fun _ => fun
  | [d1, d2, d3] => { results := [.lit (.bool true)], args := [d1, d2, d3] }
  | _ => none }
def authsetMadeRow : OpenClaim := { program := "ytebggldlhohkpaa", sum := "340347d5005a03c33cf5ef8b083687b69d287ee5c145b590e8d4c0c2f41b76f3", func := "fedchat/fedchatlaw15.AuthsetMade", spec := "authsetMade", unfollowed := true, recurses := true, apart := false }
def AuthsetMadeSaid : Prop := authsetMadeRow.holds Try.pinned (OpenSpec.ofChange authsetMadeSpec)

/-- ITS FALSE NEIGHBOUR: 'it returns false'. Refute it at one input. -/
def authsetMadeWrong : ChangeSpec := { name := "authsetMade", fn := fun _ => fun
  | [d1, d2, d3] => { results := [.lit (.bool false)], args := [d1, d2, d3] }
  | _ => none }
def AuthsetMadeWrongFalsely : Prop := authsetMadeRow.holds Try.pinned (OpenSpec.ofChange authsetMadeWrong)

/-- 'fedchatlaw15.AuthsetWhole': WHATEVER THE INPUT: true; the input reads as it did. -/
def authsetWholeSpec : ChangeSpec := { name := "authsetWhole", fn := fun _ => fun
  | [d1, d2] => { results := [.lit (.bool true)], args := [d1, d2] }
  | _ => none }
def authsetWholeRow : OpenClaim := { program := "ytebggldlhohkpaa", sum := "340347d5005a03c33cf5ef8b083687b69d287ee5c145b590e8d4c0c2f41b76f3", func := "fedchat/fedchatlaw15.AuthsetWhole", spec := "authsetWhole", unfollowed := true, recurses := true, apart := false }
def AuthsetWholeSaid : Prop := authsetWholeRow.holds Try.pinned (OpenSpec.ofChange authsetWholeSpec)

/-- ITS FALSE NEIGHBOUR: 'it returns false'. Refute it at one input. -/
def authsetWholeWrong : ChangeSpec := { name := "authsetWhole", fn := fun _ => fun
  | [d1, d2] => { results := [.lit (.bool false)], args := [d1, d2] }
  | _ => none }
def AuthsetWholeWrongFalsely : Prop := authsetWholeRow.holds Try.pinned (OpenSpec.ofChange authsetWholeWrong)

/-- 'fedchatlaw15.AuthsetOrders': WHATEVER THE INPUT: true; the input reads as it did. -/
def authsetOrdersSpec : ChangeSpec := { name := "authsetOrders", fn := fun _ => fun
  | [d] => { results := [.lit (.bool true)], args := [d] }
  | _ => none }
def authsetOrdersRow : OpenClaim := { program := "ytebggldlhohkpaa", sum := "340347d5005a03c33cf5ef8b083687b69d287ee5c145b590e8d4c0c2f41b76f3", func := "fedchat/fedchatlaw15.AuthsetOrders", spec := "authsetOrders", unfollowed := true, recurses := true, apart := false }
def AuthsetOrdersSaid : Prop := authsetOrdersRow.holds Try.pinned (OpenSpec.ofChange authsetOrdersSpec)

/-- ITS FALSE NEIGHBOUR: 'it returns false'. Refute it at one input. -/
def authsetOrdersWrong : ChangeSpec := { name := "authsetOrders", fn := fun _ => fun
  | [d] => { results := [.lit (.bool false)], args := [d] }
  | _ => none }
def AuthsetOrdersWrongFalsely : Prop := authsetOrdersRow.holds Try.pinned (OpenSpec.ofChange authsetOrdersWrong)

/- THE SECOND FORM. 'bulk': how many values and letters a reading holds, each counted each time it is reached (what is shared counts as often as it is met; a slice's spare places count too). A statement '..UptoSaid' is the law's where the arguments, and the package variables that the reading takes, are together of bulk at most 1048576: NARROWER than '..Said'. Prove '..Said' where nothing that the law and all that it calls make is longer than what came in: it says more and counts as full. Else prove '..UptoSaid'. A law counts once. -/
mutual
def uptoBulk {H : Type} : DataW H → Nat
  | .lit (.string bytes) => bytes.length + 1
  | .lit _ => 1
  | .nil => 1
  | .ptr d => uptoBulk d + 1
  | .slice elems spare => uptoBulkAll elems + uptoBulkAll spare + 1
  | .agg parts => uptoBulkAll parts + 1
  | .iface _ d => uptoBulk d + 1
  | .map entries => uptoBulkEntries entries + 1
  | .held _ => 1
def uptoBulkAll {H : Type} : List (DataW H) → Nat
  | [] => 0
  | d :: r => uptoBulk d + uptoBulkAll r
def uptoBulkEntries {H : Type} : List (Lit × DataW H) → Nat
  | [] => 0
  | x :: r => uptoBulkEntry x + uptoBulkEntries r
def uptoBulkEntry {H : Type} : Lit × DataW H → Nat
  | (.string bytes, d) => bytes.length + uptoBulk d + 1
  | (_, d) => uptoBulk d + 1
 end
def uptoSmall : (H : Type) → List (DataW H) → Bool := fun _ ds => decide (uptoBulkAll ds ≤ 1048576)
def OpenSpec.upto (s : _root_.Go.ChangeSpec) : _root_.Go.OpenSpec := { _root_.Go.OpenSpec.ofChange s with cond := some uptoSmall }

/-- 'fedchatlaw15.AuthsetKeys', WHERE WHAT IT READS IS OF BULK AT MOST 1048576: true; the input reads as it did. -/
def authsetKeysUptoRow : OpenClaim := { program := "ytebggldlhohkpaa", sum := "340347d5005a03c33cf5ef8b083687b69d287ee5c145b590e8d4c0c2f41b76f3", func := "fedchat/fedchatlaw15.AuthsetKeys", spec := "authsetKeys", unfollowed := true, recurses := true, apart := false, narrowed := true }
def AuthsetKeysUptoSaid : Prop := authsetKeysUptoRow.holds Try.pinned (OpenSpec.upto authsetKeysSpec)

/-- 'fedchatlaw15.AuthsetSelects', WHERE WHAT IT READS IS OF BULK AT MOST 1048576: true; the input reads as it did. -/
def authsetSelectsUptoRow : OpenClaim := { program := "ytebggldlhohkpaa", sum := "340347d5005a03c33cf5ef8b083687b69d287ee5c145b590e8d4c0c2f41b76f3", func := "fedchat/fedchatlaw15.AuthsetSelects", spec := "authsetSelects", unfollowed := true, recurses := true, apart := false, narrowed := true }
def AuthsetSelectsUptoSaid : Prop := authsetSelectsUptoRow.holds Try.pinned (OpenSpec.upto authsetSelectsSpec)

/-- 'fedchatlaw15.AuthsetFits', WHERE WHAT IT READS IS OF BULK AT MOST 1048576: true; the input reads as it did. -/
def authsetFitsUptoRow : OpenClaim := { program := "ytebggldlhohkpaa", sum := "340347d5005a03c33cf5ef8b083687b69d287ee5c145b590e8d4c0c2f41b76f3", func := "fedchat/fedchatlaw15.AuthsetFits", spec := "authsetFits", unfollowed := true, recurses := true, apart := false, narrowed := true }
def AuthsetFitsUptoSaid : Prop := authsetFitsUptoRow.holds Try.pinned (OpenSpec.upto authsetFitsSpec)

/-- 'fedchatlaw15.AuthsetFroms', WHERE WHAT IT READS IS OF BULK AT MOST 1048576: true; the input reads as it did. -/
def authsetFromsUptoRow : OpenClaim := { program := "ytebggldlhohkpaa", sum := "340347d5005a03c33cf5ef8b083687b69d287ee5c145b590e8d4c0c2f41b76f3", func := "fedchat/fedchatlaw15.AuthsetFroms", spec := "authsetFroms", unfollowed := true, recurses := true, apart := false, narrowed := true }
def AuthsetFromsUptoSaid : Prop := authsetFromsUptoRow.holds Try.pinned (OpenSpec.upto authsetFromsSpec)

/-- 'fedchatlaw15.AuthsetMade', WHERE WHAT IT READS IS OF BULK AT MOST 1048576: true; the input reads as it did. -/
def authsetMadeUptoRow : OpenClaim := { program := "ytebggldlhohkpaa", sum := "340347d5005a03c33cf5ef8b083687b69d287ee5c145b590e8d4c0c2f41b76f3", func := "fedchat/fedchatlaw15.AuthsetMade", spec := "authsetMade", unfollowed := true, recurses := true, apart := false, narrowed := true }
def AuthsetMadeUptoSaid : Prop := authsetMadeUptoRow.holds Try.pinned (OpenSpec.upto authsetMadeSpec)

/-- 'fedchatlaw15.AuthsetWhole', WHERE WHAT IT READS IS OF BULK AT MOST 1048576: true; the input reads as it did. -/
def authsetWholeUptoRow : OpenClaim := { program := "ytebggldlhohkpaa", sum := "340347d5005a03c33cf5ef8b083687b69d287ee5c145b590e8d4c0c2f41b76f3", func := "fedchat/fedchatlaw15.AuthsetWhole", spec := "authsetWhole", unfollowed := true, recurses := true, apart := false, narrowed := true }
def AuthsetWholeUptoSaid : Prop := authsetWholeUptoRow.holds Try.pinned (OpenSpec.upto authsetWholeSpec)

/-- 'fedchatlaw15.AuthsetOrders', WHERE WHAT IT READS IS OF BULK AT MOST 1048576: true; the input reads as it did. -/
def authsetOrdersUptoRow : OpenClaim := { program := "ytebggldlhohkpaa", sum := "340347d5005a03c33cf5ef8b083687b69d287ee5c145b590e8d4c0c2f41b76f3", func := "fedchat/fedchatlaw15.AuthsetOrders", spec := "authsetOrders", unfollowed := true, recurses := true, apart := false, narrowed := true }
def AuthsetOrdersUptoSaid : Prop := authsetOrdersUptoRow.holds Try.pinned (OpenSpec.upto authsetOrdersSpec)

end Rows
end Go.Proofs.Ytebggldlhohkpaa
