/- The law NumTexts returns true for every number and leaves its arguments as they were.
It holds for every input. Conditions: none. -/
import Derived.Test.YtahpcfdhlgcinaaRows
import Derived.ProofKit
import Derived.Test.YtahpcfdhlgcinaaTp
import Derived.Test.YtahpcfdhlgcinaaN9
namespace Go.Proofs.Ytahpcfdhlgcinaa
open Go Go.Abs Go.ChangeShapes Go.WideShapes Go.ChangeAt Go.RowKit
theorem NumTexts_own : ownKnob Try.prog.godebug = none := by kernel_rfl
theorem NumTexts_laidOut : laidOutB Try.prog = true := by kernel_rfl
theorem NumTexts_fn {H : Type} : ∀ ds : List (DataW H), ds.length = 1 → Rows.numTextsSpec.fn H ds = { results := [.lit (.bool true)], args := ds }
  | [], h => by simp at h
  | [d0], _ => rfl
  | _ :: _ :: _, h => by simp at h
set_option maxRecDepth 100000 in
theorem NumTexts_lifted (os : Os) (started : os.Started) (H : Type) (enc : TypeId × Value → H) :
    ReturnsInHanded {} Try.checked os 5 .any (Rows.numTextsSpec.pre6 enc Try.prog Try.f5 Rows.numTextsRow.domain false) (Rows.numTextsSpec.post enc Try.prog Try.f5 false true false false) := by
  refine returnsInHanded_of_change (C := Try.checked) NumTexts_own started (by kernel_rfl) Try.func5
    (ChangeSpec.witness6 (enc := enc) (C := Try.checked) false ⟨#[], #[.int .i64 0], []⟩ 12 (by kernel_rfl) (by kernel_rfl) (by kernel_rfl) (by kernel_rfl)) ?_
  intro W base args ds gs before hval hW hcnd _
  have ho : OpensArgs Try.prog Try.f5.params.toList _ _ := opensArgs_cons (opensArg_one (by kernel_rfl) opI) (opensArgs_nil)
  exact law_calls (fn := Try.f5) (bt := 4) NumTexts_laidOut (by rw [Try.params5]; intro t ht; simp only [List.mem_cons, List.not_mem_nil, or_false] at ht; subst ht; exact ⟨by kernel_rfl, of_decide_eq_true (by kernel_rfl)⟩) rfl (by kernel_rfl) (by kernel_rfl) (fun ds h => NumTexts_fn ds (by rw [Try.params5] at h; exact h)) ho (fun x hx => texts1_law x.1 hx.1.1 hx.1.2) hval hW
theorem NumTexts_holds : Rows.NumTextsSaid :=
  OpenClaim.holds_of_wide 5 Try.f5 rfl rfl rfl rfl rfl rfl rfl ⟨rfl, rfl, rfl, rfl, rfl⟩ rfl rfl rfl rfl rfl (by kernel_rfl) Try.func5 (by kernel_rfl)
    (of_decide_eq_true (by kernel_rfl)) (by unfold Func.isWrapper; rw [if_neg (by decide +kernel)]; exact ⟨rfl, rfl⟩)
    (fun os started H enc _ => NumTexts_lifted os started H enc)
end Go.Proofs.Ytahpcfdhlgcinaa
