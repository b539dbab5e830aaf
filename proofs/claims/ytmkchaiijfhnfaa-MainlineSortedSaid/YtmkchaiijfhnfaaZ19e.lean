/- The law MainlineSorted returns true for every list of events and every two lists of ids and leaves its arguments as they were.
It holds for every input. Conditions: none. -/
import Derived.Test.YtmkchaiijfhnfaaRows
import Derived.ProofKit
import Derived.Test.YtmkchaiijfhnfaaTe
import Derived.Test.YtmkchaiijfhnfaaM11
namespace Go.Proofs.Ytmkchaiijfhnfaa
open Go Go.Abs Go.ChangeShapes Go.WideShapes Go.ChangeAt Go.RowKit
theorem MainlineSorted_own : ownKnob Try.prog.godebug = none := by kernel_rfl
theorem MainlineSorted_laidOut : laidOutB Try.prog = true := by kernel_rfl
theorem MainlineSorted_fn {H : Type} : ∀ ds : List (DataW H), ds.length = 3 → Rows.mainlineSortedSpec.fn H ds = { results := [.lit (.bool true)], args := ds }
  | [], h => by simp at h
  | [_], h => by simp at h
  | [_, _], h => by simp at h
  | [d0, d1, d2], _ => rfl
  | _ :: _ :: _ :: _ :: _, h => by simp at h
set_option maxRecDepth 100000 in
theorem MainlineSorted_lifted (os : Os) (started : os.Started) (H : Type) (enc : TypeId × Value → H) :
    ReturnsInHanded {} Try.checked os 7 .any (Rows.mainlineSortedSpec.pre6 enc Try.prog Try.f7 Rows.mainlineSortedRow.domain false) (Rows.mainlineSortedSpec.post enc Try.prog Try.f7 false true false false) := by
  refine returnsInHanded_of_change (C := Try.checked) MainlineSorted_own started (by kernel_rfl) Try.func7
    (ChangeSpec.witness6 (enc := enc) (C := Try.checked) false ⟨#[], #[.slice none 0 0, .slice none 0 0, .slice none 0 0], []⟩ 12 (by kernel_rfl) (by kernel_rfl) (by kernel_rfl) (by kernel_rfl)) ?_
  intro W base args ds gs before hval hW hcnd _
  have ho : OpensArgs Try.prog Try.f7.params.toList _ _ := opensArgs_cons (opensArg_one (by kernel_rfl) opEvts) (opensArgs_cons (opensArg_one (by kernel_rfl) opIntsE) (opensArgs_cons (opensArg_one (by kernel_rfl) opIntsE) (opensArgs_nil)))
  exact law_calls (fn := Try.f7) (bt := 4) MainlineSorted_laidOut (by rw [Try.params7]; intro t ht; simp only [List.mem_cons, List.not_mem_nil, or_false] at ht; rcases ht with rfl | rfl | rfl <;> exact ⟨by kernel_rfl, of_decide_eq_true (by kernel_rfl)⟩) rfl (by kernel_rfl) (by kernel_rfl) (fun ds h => MainlineSorted_fn ds (by rw [Try.params7] at h; exact h)) ho (fun x _ => sorted19_law x.1 x.2.1 x.2.2.1) hval hW
theorem MainlineSorted_holds : Rows.MainlineSortedSaid :=
  OpenClaim.holds_of_wide 7 Try.f7 rfl rfl rfl rfl rfl rfl rfl ⟨rfl, rfl, rfl, rfl, rfl⟩ rfl rfl rfl rfl rfl (by kernel_rfl) Try.func7 (by kernel_rfl)
    (of_decide_eq_true (by kernel_rfl)) (by unfold Func.isWrapper; rw [if_neg (by decide +kernel)]; exact ⟨rfl, rfl⟩)
    (fun os started H enc _ => MainlineSorted_lifted os started H enc)
end Go.Proofs.Ytmkchaiijfhnfaa
