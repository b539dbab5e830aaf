/- The law NumParts returns true for every two lists of numbers and leaves its arguments as they were.
It holds for every input. Conditions: none. -/
import Derived.Test.YtahpcfdhlgcinaaRows
import Derived.ProofKit
import Derived.Test.YtahpcfdhlgcinaaTp
import Derived.Test.YtahpcfdhlgcinaaN10
namespace Go.Proofs.Ytahpcfdhlgcinaa
open Go Go.Abs Go.ChangeShapes Go.WideShapes Go.ChangeAt Go.RowKit
theorem NumParts_own : ownKnob Try.prog.godebug = none := by kernel_rfl
theorem NumParts_laidOut : laidOutB Try.prog = true := by kernel_rfl
theorem NumParts_fn {H : Type} : ∀ ds : List (DataW H), ds.length = 2 → Rows.numPartsSpec.fn H ds = { results := [.lit (.bool true)], args := ds }
  | [], h => by simp at h
  | [_], h => by simp at h
  | [d0, d1], _ => rfl
  | _ :: _ :: _ :: _, h => by simp at h
set_option maxRecDepth 100000 in
theorem NumParts_lifted (os : Os) (started : os.Started) (H : Type) (enc : TypeId × Value → H) :
    ReturnsInHanded {} Try.checked os 10 .any (Rows.numPartsSpec.pre6 enc Try.prog Try.f10 Rows.numPartsRow.domain false) (Rows.numPartsSpec.post enc Try.prog Try.f10 false true false false) := by
  refine returnsInHanded_of_change (C := Try.checked) NumParts_own started (by kernel_rfl) Try.func10
    (ChangeSpec.witness6 (enc := enc) (C := Try.checked) false ⟨#[], #[.slice none 0 0, .slice none 0 0], []⟩ 12 (by kernel_rfl) (by kernel_rfl) (by kernel_rfl) (by kernel_rfl)) ?_
  intro W base args ds gs before hval hW hcnd _
  have ho : OpensArgs Try.prog Try.f10.params.toList _ _ := opensArgs_cons (opensArg_one (by kernel_rfl) opInts) (opensArgs_cons (opensArg_one (by kernel_rfl) opInts) (opensArgs_nil))
  exact law_calls (fn := Try.f10) (bt := 4) NumParts_laidOut (by rw [Try.params10]; intro t ht; simp only [List.mem_cons, List.not_mem_nil, or_false] at ht; rcases ht with rfl | rfl <;> exact ⟨by kernel_rfl, of_decide_eq_true (by kernel_rfl)⟩) rfl (by kernel_rfl) (by kernel_rfl) (fun ds h => NumParts_fn ds (by rw [Try.params10] at h; exact h)) ho (fun x _ => parts1_law x.1 x.2.1) hval hW
theorem NumParts_holds : Rows.NumPartsSaid :=
  OpenClaim.holds_of_wide 10 Try.f10 rfl rfl rfl rfl rfl rfl rfl ⟨rfl, rfl, rfl, rfl, rfl⟩ rfl rfl rfl rfl rfl (by kernel_rfl) Try.func10 (by kernel_rfl)
    (of_decide_eq_true (by kernel_rfl)) (by unfold Func.isWrapper; rw [if_neg (by decide +kernel)]; exact ⟨rfl, rfl⟩)
    (fun os started H enc _ => NumParts_lifted os started H enc)
end Go.Proofs.Ytahpcfdhlgcinaa
