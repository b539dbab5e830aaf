/- The law AuthsetWhole returns true for every list of events and every event and leaves its arguments as they were.
It holds for every input. Conditions: none. -/
import Derived.Test.YtebggldlhohkpaaRows
import Derived.ProofKit
import Derived.Test.YtebggldlhohkpaaTr
import Derived.Test.YtebggldlhohkpaaTe
import Derived.Test.YtebggldlhohkpaaA10
namespace Go.Proofs.Ytebggldlhohkpaa
open Go Go.Abs Go.ChangeShapes Go.WideShapes Go.ChangeAt Go.RowKit
theorem AuthsetWhole_own : ownKnob Try.prog.godebug = none := by kernel_rfl
theorem AuthsetWhole_laidOut : laidOutB Try.prog = true := by kernel_rfl
theorem AuthsetWhole_fn {H : Type} : ∀ ds : List (DataW H), ds.length = 2 → Rows.authsetWholeSpec.fn H ds = { results := [.lit (.bool true)], args := ds }
  | [], h => by simp at h
  | [_], h => by simp at h
  | [d0, d1], _ => rfl
  | _ :: _ :: _ :: _, h => by simp at h
set_option maxRecDepth 100000 in
theorem AuthsetWhole_lifted (os : Os) (started : os.Started) (H : Type) (enc : TypeId × Value → H) :
    ReturnsInHanded {} Try.checked os 8 .any (Rows.authsetWholeSpec.pre6 enc Try.prog Try.f8 Rows.authsetWholeRow.domain false) (Rows.authsetWholeSpec.post enc Try.prog Try.f8 false true false false) := by
  refine returnsInHanded_of_change (C := Try.checked) AuthsetWhole_own started (by kernel_rfl) Try.func8
    (ChangeSpec.witness6 (enc := enc) (C := Try.checked) false ⟨#[], #[.slice none 0 0, .agg #[.int .i64 0, .string ⟨#[]⟩, .string ⟨#[]⟩, .int .i64 0, .bool false, .string ⟨#[]⟩, .int .i64 0, .int .i64 0, .slice none 0 0, .slice none 0 0, .string ⟨#[]⟩, .int .i64 0, .int .i64 0, .bool false, .string ⟨#[]⟩, .slice none 0 0, .slice none 0 0, .slice none 0 0, .slice none 0 0, .int .i64 0, .int .i64 0, .int .i64 0, .int .i64 0, .int .i64 0, .int .i64 0, .int .i64 0, .int .i64 0, .string ⟨#[]⟩, .int .i64 0]], []⟩ 12 (by kernel_rfl) (by kernel_rfl) (by kernel_rfl) (by kernel_rfl)) ?_
  intro W base args ds gs before hval hW hcnd _
  have ho : OpensArgs Try.prog Try.f8.params.toList _ _ := opensArgs_cons (opensArg_one (by kernel_rfl) opEvts) (opensArgs_cons (opensArg_agg (by kernel_rfl) opEvt) (opensArgs_nil))
  exact law_calls (fn := Try.f8) (bt := 4) AuthsetWhole_laidOut (by rw [Try.params8]; intro t ht; simp only [List.mem_cons, List.not_mem_nil, or_false] at ht; rcases ht with rfl | rfl <;> exact ⟨by kernel_rfl, of_decide_eq_true (by kernel_rfl)⟩) rfl (by kernel_rfl) (by kernel_rfl) (fun ds h => AuthsetWhole_fn ds (by rw [Try.params8] at h; exact h)) ho (fun x _ => whole_law x.1 x.2.1) hval hW
theorem AuthsetWhole_holds : Rows.AuthsetWholeSaid :=
  OpenClaim.holds_of_wide 8 Try.f8 rfl rfl rfl rfl rfl rfl rfl ⟨rfl, rfl, rfl, rfl, rfl⟩ rfl rfl rfl rfl rfl (by kernel_rfl) Try.func8 (by kernel_rfl)
    (of_decide_eq_true (by kernel_rfl)) (by unfold Func.isWrapper; rw [if_neg (by decide +kernel)]; exact ⟨rfl, rfl⟩)
    (fun os started H enc _ => AuthsetWhole_lifted os started H enc)
end Go.Proofs.Ytebggldlhohkpaa
