/-
  No cell of these rows narrows 'for every input' (looked for: loops, veiled, ifaces, maps, wideKeys, modest, calm, conditions, laid).
  DERIVED. THE GIVEN ROWS OF THIS SEAT. 4 by the template 'for every input the law returns true; each argument reads behind the call as it read before'; 0 by the template 'total and deterministic' (their statements: YtgpjdkbepgomhaaTotals.lean).
  GIVEN WITH THE SEED: the statements are not yours to turn. If you find one false, say at which input.
  Laid BY PROGRAM, IN A SANDBOX (cutbox-rows.mjs): the forced cells as the released guide's own fill.sh prints them over the translation 010639421d53ca80… (all of the seat's roots in one cut). By AI agents, Wed Nov 11 2026. No macro, syntax, notation, axiom, sorry.
-/
import Derived.Test.YtgpjdkbepgomhaaChecked
import GoSem.Claim
import GoSem.ClaimJoined
import GoSem.ClaimMapViews
import Derived.JoinedTies
import Derived.KernelRfl
namespace Go.Proofs.Ytgpjdkbepgomhaa
/- THE CELL 'sum', in the pinned program and in every row, IS THE sha256 OF THE DUMP (.gsa) THAT YtgpjdkbepgomhaaProg.lean LOADS. Nothing in Lean hashes anything: it is a label: what it is worth is what the hold of that sum in a sandbox is worth. -/
noncomputable def Try.pinned : Pinned := { name := "ytgpjdkbepgomhaa", sum := "010639421d53ca80b2eb8a1fac0fe62a0bb5be803cc2c23e8506455dfcf5a0ec", checked := Try.checked }
namespace Rows
def none {H : Type} : Left H := { results := [], args := [] }

/-- 'fedchatlaw46.TrustOf': WHATEVER THE INPUT: true; the input reads as it did. -/
def trustOfSpec : ChangeSpec := { name := "trustOf", fn := fun _ => fun
  | [d] => { results := [.lit (.bool true)], args := [d] }
  | _ => none }
def trustOfRow : OpenClaim := { program := "ytgpjdkbepgomhaa", sum := "010639421d53ca80b2eb8a1fac0fe62a0bb5be803cc2c23e8506455dfcf5a0ec", func := "fedchat/fedchatlaw46.TrustOf", spec := "trustOf", recurses := true, apart := false }
def TrustOfSaid : Prop := trustOfRow.holds Try.pinned (OpenSpec.ofChange trustOfSpec)

/-- ITS FALSE NEIGHBOUR: 'it returns false'. Refute it at one input. -/
def trustOfWrong : ChangeSpec := { name := "trustOf", fn := fun _ => fun
  | [d] => { results := [.lit (.bool false)], args := [d] }
  | _ => none }
def TrustOfWrongFalsely : Prop := trustOfRow.holds Try.pinned (OpenSpec.ofChange trustOfWrong)

/-- 'fedchatlaw46.TrustLists': WHATEVER THE INPUT: true; the input reads as it did. -/
def trustListsSpec : ChangeSpec := { name := "trustLists", fn := fun _ => fun
  | [d1, d2, d3] => { results := [.lit (.bool true)], args := [d1, d2, d3] }
  | _ => none }
def trustListsRow : OpenClaim := { program := "ytgpjdkbepgomhaa", sum := "010639421d53ca80b2eb8a1fac0fe62a0bb5be803cc2c23e8506455dfcf5a0ec", func := "fedchat/fedchatlaw46.TrustLists", spec := "trustLists", recurses := true, apart := false }
def TrustListsSaid : Prop := trustListsRow.holds Try.pinned (OpenSpec.ofChange trustListsSpec)

/-- ITS FALSE NEIGHBOUR: 'it returns false'. Refute it at one input. -/
def trustListsWrong : ChangeSpec := { name := "trustLists", fn := fun _ => fun
  | [d1, d2, d3] => { results := [.lit (.bool false)], args := [d1, d2, d3] }
  | _ => none }
def TrustListsWrongFalsely : Prop := trustListsRow.holds Try.pinned (OpenSpec.ofChange trustListsWrong)

/-- 'fedchatlaw46.TrustGrounds': WHATEVER THE INPUT: true; the input reads as it did. -/
def trustGroundsSpec : ChangeSpec := { name := "trustGrounds", fn := fun _ => fun
  | [d] => { results := [.lit (.bool true)], args := [d] }
  | _ => none }
def trustGroundsRow : OpenClaim := { program := "ytgpjdkbepgomhaa", sum := "010639421d53ca80b2eb8a1fac0fe62a0bb5be803cc2c23e8506455dfcf5a0ec", func := "fedchat/fedchatlaw46.TrustGrounds", spec := "trustGrounds", recurses := true, apart := false }
def TrustGroundsSaid : Prop := trustGroundsRow.holds Try.pinned (OpenSpec.ofChange trustGroundsSpec)

/-- ITS FALSE NEIGHBOUR: 'it returns false'. Refute it at one input. -/
def trustGroundsWrong : ChangeSpec := { name := "trustGrounds", fn := fun _ => fun
  | [d] => { results := [.lit (.bool false)], args := [d] }
  | _ => none }
def TrustGroundsWrongFalsely : Prop := trustGroundsRow.holds Try.pinned (OpenSpec.ofChange trustGroundsWrong)

/-- 'fedchatlaw46.TrustGrows': WHATEVER THE INPUT: true; the input reads as it did. -/
def trustGrowsSpec : ChangeSpec := { name := "trustGrows", fn := fun _ => fun
  | [d1, d2, d3] => { results := [.lit (.bool true)], args := [d1, d2, d3] }
  | _ => none }
def trustGrowsRow : OpenClaim := { program := "ytgpjdkbepgomhaa", sum := "010639421d53ca80b2eb8a1fac0fe62a0bb5be803cc2c23e8506455dfcf5a0ec", func := "fedchat/fedchatlaw46.TrustGrows", spec := "trustGrows", recurses := true, apart := false }
def TrustGrowsSaid : Prop := trustGrowsRow.holds Try.pinned (OpenSpec.ofChange trustGrowsSpec)

/-- ITS FALSE NEIGHBOUR: 'it returns false'. Refute it at one input. -/
def trustGrowsWrong : ChangeSpec := { name := "trustGrows", fn := fun _ => fun
  | [d1, d2, d3] => { results := [.lit (.bool false)], args := [d1, d2, d3] }
  | _ => none }
def TrustGrowsWrongFalsely : Prop := trustGrowsRow.holds Try.pinned (OpenSpec.ofChange trustGrowsWrong)

/- THE SECOND FORM. 'bulk': how many values and letters a reading holds, each counted each time it is reached (what is shared counts as often as it is met; a slice's spare places count too). A statement '..UptoSaid' is the law's where the arguments, and the package variables that the reading takes, are together of bulk at most 1048576: NARROWER than '..Said'. Prove '..Said' where nothing that the law and all that it calls make is longer than what came in: it says more and counts as full. Else prove '..UptoSaid'. A law counts once. -/
mutual
def uptoBulk {H : Type} : DataW H → Nat
  | .lit (.string bytes) => bytes.length + 1
  | .lit _ => 1
  | .nil => 1
  | .ptr d => uptoBulk d + 1
  | .slice elems spare => uptoBulkAll elems + uptoBulkAll spare + 1
  | .agg parts => uptoBulkAll parts + 1
  | .iface _ d => uptoBulk d + 1
  | .map entries => uptoBulkEntries entries + 1
  | .held _ => 1
def uptoBulkAll {H : Type} : List (DataW H) → Nat
  | [] => 0
  | d :: r => uptoBulk d + uptoBulkAll r
def uptoBulkEntries {H : Type} : List (Lit × DataW H) → Nat
  | [] => 0
  | x :: r => uptoBulkEntry x + uptoBulkEntries r
def uptoBulkEntry {H : Type} : Lit × DataW H → Nat
  | (.string bytes, d) => bytes.length + uptoBulk d + 1
  | (_, d) => uptoBulk d + 1
 end
def uptoSmall : (H : Type) → List (DataW H) → Bool := fun _ ds => decide (uptoBulkAll ds ≤ 1048576)
def OpenSpec.upto (s : _root_.Go.ChangeSpec) : _root_.Go.OpenSpec := { _root_.Go.OpenSpec.ofChange s with cond := some uptoSmall }

/-- 'fedchatlaw46.TrustOf', WHERE WHAT IT READS IS OF BULK AT MOST 1048576: true; the input reads as it did. -/
def trustOfUptoRow : OpenClaim := { program := "ytgpjdkbepgomhaa", sum := "010639421d53ca80b2eb8a1fac0fe62a0bb5be803cc2c23e8506455dfcf5a0ec", func := "fedchat/fedchatlaw46.TrustOf", spec := "trustOf", recurses := true, apart := false, narrowed := true }
def TrustOfUptoSaid : Prop := trustOfUptoRow.holds Try.pinned (OpenSpec.upto trustOfSpec)

/-- 'fedchatlaw46.TrustLists', WHERE WHAT IT READS IS OF BULK AT MOST 1048576: true; the input reads as it did. -/
def trustListsUptoRow : OpenClaim := { program := "ytgpjdkbepgomhaa", sum := "010639421d53ca80b2eb8a1fac0fe62a0bb5be803cc2c23e8506455dfcf5a0ec", func := "fedchat/fedchatlaw46.TrustLists", spec := "trustLists", recurses := true, apart := false, narrowed := true }
def TrustListsUptoSaid : Prop := trustListsUptoRow.holds Try.pinned (OpenSpec.upto trustListsSpec)

/-- 'fedchatlaw46.TrustGrounds', WHERE WHAT IT READS IS OF BULK AT MOST 1048576: true; the input reads as it did. -/
def trustGroundsUptoRow : OpenClaim := { program := "ytgpjdkbepgomhaa", sum := "010639421d53ca80b2eb8a1fac0fe62a0bb5be803cc2c23e8506455dfcf5a0ec", func := "fedchat/fedchatlaw46.TrustGrounds", spec := "trustGrounds", recurses := true, apart := false, narrowed := true }
def TrustGroundsUptoSaid : Prop := trustGroundsUptoRow.holds Try.pinned (OpenSpec.upto trustGroundsSpec)

/-- 'fedchatlaw46.TrustGrows', WHERE WHAT IT READS IS OF BULK AT MOST 1048576: true; the input reads as it did. -/
def trustGrowsUptoRow : OpenClaim := { program := "ytgpjdkbepgomhaa", sum := "010639421d53ca80b2eb8a1fac0fe62a0bb5be803cc2c23e8506455dfcf5a0ec", func := "fedchat/fedchatlaw46.TrustGrows", spec := "trustGrows", recurses := true, apart := false, narrowed := true }
def TrustGrowsUptoSaid : Prop := trustGrowsUptoRow.holds Try.pinned (OpenSpec.upto trustGrowsSpec)

end Rows
end Go.Proofs.Ytgpjdkbepgomhaa
