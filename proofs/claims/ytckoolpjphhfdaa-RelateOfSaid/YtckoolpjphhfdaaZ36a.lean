/- The law RelateOf returns true for every input and leaves its arguments as they were.
It holds for every input. Conditions: none. -/
import Derived.Test.YtckoolpjphhfdaaRows
import Derived.ProofKit
import Derived.Test.YtckoolpjphhfdaaTe
import Derived.Test.YtckoolpjphhfdaaR13
namespace Go.Proofs.Ytckoolpjphhfdaa
open Go Go.Abs Go.ChangeShapes Go.WideShapes Go.ChangeAt Go.RowKit
theorem RelateOf_own : ownKnob Try.prog.godebug = none := by kernel_rfl
theorem RelateOf_laidOut : laidOutB Try.prog = true := by kernel_rfl
theorem RelateOf_fn {H : Type} : ∀ ds : List (DataW H), ds.length = 1 → Rows.relateOfSpec.fn H ds = { results := [.lit (.bool true)], args := ds }
  | [], h => by simp at h
  | [d0], _ => rfl
  | _ :: _ :: _, h => by simp at h
set_option maxRecDepth 100000 in
theorem RelateOf_lifted (os : Os) (started : os.Started) (H : Type) (enc : TypeId × Value → H) :
    ReturnsInHanded {} Try.checked os 3 .any (Rows.relateOfSpec.pre6 enc Try.prog Try.f3 Rows.relateOfRow.domain false) (Rows.relateOfSpec.post enc Try.prog Try.f3 false true false false) := by
  refine returnsInHanded_of_change (C := Try.checked) RelateOf_own started (by kernel_rfl) Try.func3
    (ChangeSpec.witness6 (enc := enc) (C := Try.checked) false ⟨#[], #[.agg #[.int .i64 0, .string ⟨#[]⟩, .string ⟨#[]⟩, .int .i64 0, .bool false, .string ⟨#[]⟩, .int .i64 0, .int .i64 0, .slice none 0 0, .slice none 0 0, .string ⟨#[]⟩, .int .i64 0, .int .i64 0, .bool false, .string ⟨#[]⟩, .slice none 0 0, .slice none 0 0, .slice none 0 0, .slice none 0 0, .int .i64 0, .int .i64 0, .int .i64 0, .int .i64 0, .int .i64 0, .int .i64 0, .int .i64 0, .int .i64 0, .string ⟨#[]⟩, .int .i64 0]], []⟩ 12 (by kernel_rfl) (by kernel_rfl) (by kernel_rfl) (by kernel_rfl)) ?_
  intro W base args ds gs before hval hW hcnd _
  have ho : OpensArgs Try.prog Try.f3.params.toList _ _ := opensArgs_cons (opensArg_agg (by kernel_rfl) opEvt) (opensArgs_nil)
  exact law_calls (fn := Try.f3) (bt := 4) RelateOf_laidOut (by rw [Try.params3]; intro t ht; simp only [List.mem_cons, List.not_mem_nil, or_false] at ht; subst ht; exact ⟨by kernel_rfl, of_decide_eq_true (by kernel_rfl)⟩) rfl (by kernel_rfl) (by kernel_rfl) (fun ds h => RelateOf_fn ds (by rw [Try.params3] at h; exact h)) ho (fun x _ => of36_law x.1) hval hW
theorem RelateOf_holds : Rows.RelateOfSaid :=
  OpenClaim.holds_of_wide 3 Try.f3 rfl rfl rfl rfl rfl rfl rfl ⟨rfl, rfl, rfl, rfl, rfl⟩ rfl rfl rfl rfl rfl (by kernel_rfl) Try.func3 (by kernel_rfl)
    (of_decide_eq_true (by kernel_rfl)) (by unfold Func.isWrapper; rw [if_neg (by decide +kernel)]; exact ⟨rfl, rfl⟩)
    (fun os started H enc _ => RelateOf_lifted os started H enc)
end Go.Proofs.Ytckoolpjphhfdaa
