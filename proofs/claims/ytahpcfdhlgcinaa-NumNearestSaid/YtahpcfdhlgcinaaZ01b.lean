/- The law NumNearest returns true for every three numbers and leaves its arguments as they were.
It holds for every input. Conditions: none. -/
import Derived.Test.YtahpcfdhlgcinaaRows
import Derived.ProofKit
import Derived.Test.YtahpcfdhlgcinaaTp
import Derived.Test.YtahpcfdhlgcinaaN9
namespace Go.Proofs.Ytahpcfdhlgcinaa
open Go Go.Abs Go.ChangeShapes Go.WideShapes Go.ChangeAt Go.RowKit
theorem NumNearest_own : ownKnob Try.prog.godebug = none := by kernel_rfl
theorem NumNearest_laidOut : laidOutB Try.prog = true := by kernel_rfl
theorem NumNearest_fn {H : Type} : ∀ ds : List (DataW H), ds.length = 3 → Rows.numNearestSpec.fn H ds = { results := [.lit (.bool true)], args := ds }
  | [], h => by simp at h
  | [_], h => by simp at h
  | [_, _], h => by simp at h
  | [d0, d1, d2], _ => rfl
  | _ :: _ :: _ :: _ :: _, h => by simp at h
set_option maxRecDepth 100000 in
theorem NumNearest_lifted (os : Os) (started : os.Started) (H : Type) (enc : TypeId × Value → H) :
    ReturnsInHanded {} Try.checked os 4 .any (Rows.numNearestSpec.pre6 enc Try.prog Try.f4 Rows.numNearestRow.domain false) (Rows.numNearestSpec.post enc Try.prog Try.f4 false true false false) := by
  refine returnsInHanded_of_change (C := Try.checked) NumNearest_own started (by kernel_rfl) Try.func4
    (ChangeSpec.witness6 (enc := enc) (C := Try.checked) false ⟨#[], #[.int .i64 0, .int .i64 0, .int .i64 0], []⟩ 12 (by kernel_rfl) (by kernel_rfl) (by kernel_rfl) (by kernel_rfl)) ?_
  intro W base args ds gs before hval hW hcnd _
  have ho : OpensArgs Try.prog Try.f4.params.toList _ _ := opensArgs_cons (opensArg_one (by kernel_rfl) opI) (opensArgs_cons (opensArg_one (by kernel_rfl) opI) (opensArgs_cons (opensArg_one (by kernel_rfl) opI) (opensArgs_nil)))
  exact law_calls (fn := Try.f4) (bt := 4) NumNearest_laidOut (by rw [Try.params4]; intro t ht; simp only [List.mem_cons, List.not_mem_nil, or_false] at ht; rcases ht with rfl | rfl | rfl <;> exact ⟨by kernel_rfl, of_decide_eq_true (by kernel_rfl)⟩) rfl (by kernel_rfl) (by kernel_rfl) (fun ds h => NumNearest_fn ds (by rw [Try.params4] at h; exact h)) ho (fun x _ => nearest1_law x.1 x.2.1 x.2.2.1) hval hW
theorem NumNearest_holds : Rows.NumNearestSaid :=
  OpenClaim.holds_of_wide 4 Try.f4 rfl rfl rfl rfl rfl rfl rfl ⟨rfl, rfl, rfl, rfl, rfl⟩ rfl rfl rfl rfl rfl (by kernel_rfl) Try.func4 (by kernel_rfl)
    (of_decide_eq_true (by kernel_rfl)) (by unfold Func.isWrapper; rw [if_neg (by decide +kernel)]; exact ⟨rfl, rfl⟩)
    (fun os started H enc _ => NumNearest_lifted os started H enc)
end Go.Proofs.Ytahpcfdhlgcinaa
