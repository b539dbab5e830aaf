/- The law RelateCounts returns true for every input and leaves its arguments as they were.
It holds for every input. Conditions: none. -/
import Derived.Test.YtckoolpjphhfdaaRows
import Derived.ProofKit
import Derived.Test.YtckoolpjphhfdaaKh
namespace Go.Proofs.Ytckoolpjphhfdaa
open Go Go.Abs Go.ChangeShapes Go.WideShapes Go.ChangeAt Go.RowKit
theorem RelateCounts_own : ownKnob Try.prog.godebug = none := by kernel_rfl
theorem RelateCounts_laidOut : laidOutB Try.prog = true := by kernel_rfl
theorem RelateCounts_fn {H : Type} : ∀ ds : List (DataW H), ds.length = 2 → Rows.relateCountsSpec.fn H ds = { results := [.lit (.bool true)], args := ds }
  | [], h => by simp at h
  | [_], h => by simp at h
  | [d0, d1], _ => rfl
  | _ :: _ :: _ :: _, h => by simp at h
set_option maxRecDepth 100000 in
theorem RelateCounts_lifted (os : Os) (started : os.Started) (H : Type) (enc : TypeId × Value → H) :
    ReturnsInHanded {} Try.checked os 9 .any (Rows.relateCountsSpec.pre6 enc Try.prog Try.f9 Rows.relateCountsRow.domain false) (Rows.relateCountsSpec.post enc Try.prog Try.f9 false true false false) := by
  refine returnsInHanded_of_change (C := Try.checked) RelateCounts_own started (by kernel_rfl) Try.func9
    (ChangeSpec.witness6 (enc := enc) (C := Try.checked) false ⟨#[], #[.slice none 0 0, .int .i64 0], []⟩ 12 (by kernel_rfl) (by kernel_rfl) (by kernel_rfl) (by kernel_rfl)) ?_
  intro W base args ds gs before hval hW hcnd _
  have ho : OpensArgs Try.prog Try.f9.params.toList _ _ := opensArgs_cons (opensArg_one (by kernel_rfl) opEvts) (opensArgs_cons (opensArg_one (by kernel_rfl) opI) (opensArgs_nil))
  exact law_calls (fn := Try.f9) (bt := 4) RelateCounts_laidOut (by rw [Try.params9]; intro t ht; simp only [List.mem_cons, List.not_mem_nil, or_false] at ht; rcases ht with rfl | rfl <;> exact ⟨by kernel_rfl, of_decide_eq_true (by kernel_rfl)⟩) rfl (by kernel_rfl) (by kernel_rfl) (fun ds h => RelateCounts_fn ds (by rw [Try.params9] at h; exact h)) ho (fun x _ => counts36_law x.1 x.2.1) hval hW
theorem RelateCounts_holds : Rows.RelateCountsSaid :=
  OpenClaim.holds_of_wide 9 Try.f9 rfl rfl rfl rfl rfl rfl rfl ⟨rfl, rfl, rfl, rfl, rfl⟩ rfl rfl rfl rfl rfl (by kernel_rfl) Try.func9 (by kernel_rfl)
    (of_decide_eq_true (by kernel_rfl)) (by unfold Func.isWrapper; rw [if_neg (by decide +kernel)]; exact ⟨rfl, rfl⟩)
    (fun os started H enc _ => RelateCounts_lifted os started H enc)
end Go.Proofs.Ytckoolpjphhfdaa
