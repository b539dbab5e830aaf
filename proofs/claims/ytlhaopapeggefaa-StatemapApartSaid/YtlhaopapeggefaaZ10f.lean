/- The law StatemapApart returns true for every list of states and leaves its argument as it was.
It holds for every input. Conditions: none. -/
import Derived.Test.YtlhaopapeggefaaRows
import Derived.ProofKit
import Derived.Test.YtlhaopapeggefaaTr
import Derived.Test.YtlhaopapeggefaaS12
namespace Go.Proofs.Ytlhaopapeggefaa
open Go Go.Abs Go.ChangeShapes Go.WideShapes Go.ChangeAt Go.RowKit
theorem StatemapApart_own : ownKnob Try.prog.godebug = none := by kernel_rfl
theorem StatemapApart_laidOut : laidOutB Try.prog = true := by kernel_rfl
theorem StatemapApart_fn {H : Type} : ∀ ds : List (DataW H), ds.length = 1 → Rows.statemapApartSpec.fn H ds = { results := [.lit (.bool true)], args := ds }
  | [], h => by simp at h
  | [d0], _ => rfl
  | _ :: _ :: _, h => by simp at h
set_option maxRecDepth 100000 in
theorem StatemapApart_lifted (os : Os) (started : os.Started) (H : Type) (enc : TypeId × Value → H) :
    ReturnsInHanded {} Try.checked os 7 .any (Rows.statemapApartSpec.pre6 enc Try.prog Try.f7 Rows.statemapApartRow.domain false) (Rows.statemapApartSpec.post enc Try.prog Try.f7 false true false false) := by
  refine returnsInHanded_of_change (C := Try.checked) StatemapApart_own started (by kernel_rfl) Try.func7
    (ChangeSpec.witness6 (enc := enc) (C := Try.checked) false ⟨#[], #[.slice none 0 0], []⟩ 12 (by kernel_rfl) (by kernel_rfl) (by kernel_rfl) (by kernel_rfl)) ?_
  intro W base args ds gs before hval hW hcnd _
  have ho : OpensArgs Try.prog Try.f7.params.toList _ _ := opensArgs_cons (opensArg_one (by kernel_rfl) opStates) (opensArgs_nil)
  exact law_calls (fn := Try.f7) (bt := 4) StatemapApart_laidOut (by rw [Try.params7]; intro t ht; simp only [List.mem_cons, List.not_mem_nil, or_false] at ht; subst ht; exact ⟨by kernel_rfl, of_decide_eq_true (by kernel_rfl)⟩) rfl (by kernel_rfl) (by kernel_rfl) (fun ds h => StatemapApart_fn ds (by rw [Try.params7] at h; exact h)) ho (fun x _ => apart_law x.1) hval hW
theorem StatemapApart_holds : Rows.StatemapApartSaid :=
  OpenClaim.holds_of_wide 7 Try.f7 rfl rfl rfl rfl rfl rfl rfl ⟨rfl, rfl, rfl, rfl, rfl⟩ rfl rfl rfl rfl rfl (by kernel_rfl) Try.func7 (by kernel_rfl)
    (of_decide_eq_true (by kernel_rfl)) (by unfold Func.isWrapper; rw [if_neg (by decide +kernel)]; exact ⟨rfl, rfl⟩)
    (fun os started H enc _ => StatemapApart_lifted os started H enc)
end Go.Proofs.Ytlhaopapeggefaa
