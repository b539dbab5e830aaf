/- The law NumParses returns true for every text and leaves its arguments as they were.
It holds for every input. Conditions: none. -/
import Derived.Test.YtahpcfdhlgcinaaRows
import Derived.ProofKit
import Derived.Test.YtahpcfdhlgcinaaTp
import Derived.Test.YtahpcfdhlgcinaaN9
namespace Go.Proofs.Ytahpcfdhlgcinaa
open Go Go.Abs Go.ChangeShapes Go.WideShapes Go.ChangeAt Go.RowKit
theorem NumParses_own : ownKnob Try.prog.godebug = none := by kernel_rfl
theorem NumParses_laidOut : laidOutB Try.prog = true := by kernel_rfl
theorem NumParses_fn {H : Type} : ∀ ds : List (DataW H), ds.length = 1 → Rows.numParsesSpec.fn H ds = { results := [.lit (.bool true)], args := ds }
  | [], h => by simp at h
  | [d0], _ => rfl
  | _ :: _ :: _, h => by simp at h
set_option maxRecDepth 100000 in
theorem NumParses_lifted (os : Os) (started : os.Started) (H : Type) (enc : TypeId × Value → H) :
    ReturnsInHanded {} Try.checked os 6 .any (Rows.numParsesSpec.pre6 enc Try.prog Try.f6 Rows.numParsesRow.domain false) (Rows.numParsesSpec.post enc Try.prog Try.f6 false true false false) := by
  refine returnsInHanded_of_change (C := Try.checked) NumParses_own started (by kernel_rfl) Try.func6
    (ChangeSpec.witness6 (enc := enc) (C := Try.checked) false ⟨#[], #[.string ⟨#[]⟩], []⟩ 12 (by kernel_rfl) (by kernel_rfl) (by kernel_rfl) (by kernel_rfl)) ?_
  intro W base args ds gs before hval hW hcnd _
  have ho : OpensArgs Try.prog Try.f6.params.toList _ _ := opensArgs_cons (opensArg_one (by kernel_rfl) opS) (opensArgs_nil)
  exact law_calls (fn := Try.f6) (bt := 4) NumParses_laidOut (by rw [Try.params6]; intro t ht; simp only [List.mem_cons, List.not_mem_nil, or_false] at ht; subst ht; exact ⟨by kernel_rfl, of_decide_eq_true (by kernel_rfl)⟩) rfl (by kernel_rfl) (by kernel_rfl) (fun ds h => NumParses_fn ds (by rw [Try.params6] at h; exact h)) ho (fun x _ => parses1_law x.1) hval hW
theorem NumParses_holds : Rows.NumParsesSaid :=
  OpenClaim.holds_of_wide 6 Try.f6 rfl rfl rfl rfl rfl rfl rfl ⟨rfl, rfl, rfl, rfl, rfl⟩ rfl rfl rfl rfl rfl (by kernel_rfl) Try.func6 (by kernel_rfl)
    (of_decide_eq_true (by kernel_rfl)) (by unfold Func.isWrapper; rw [if_neg (by decide +kernel)]; exact ⟨rfl, rfl⟩)
    (fun os started H enc _ => NumParses_lifted os started H enc)
end Go.Proofs.Ytahpcfdhlgcinaa
