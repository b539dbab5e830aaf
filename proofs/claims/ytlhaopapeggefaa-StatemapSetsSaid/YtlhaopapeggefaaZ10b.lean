/- The law StatemapSets returns true for every state and every entry and leaves its arguments as they were.
It holds for every input. Conditions: none. -/
import Derived.Test.YtlhaopapeggefaaRows
import Derived.ProofKit
import Derived.Test.YtlhaopapeggefaaTr
import Derived.Test.YtlhaopapeggefaaS10
namespace Go.Proofs.Ytlhaopapeggefaa
open Go Go.Abs Go.ChangeShapes Go.WideShapes Go.ChangeAt Go.RowKit
theorem StatemapSets_own : ownKnob Try.prog.godebug = none := by kernel_rfl
theorem StatemapSets_laidOut : laidOutB Try.prog = true := by kernel_rfl
theorem StatemapSets_fn {H : Type} : ∀ ds : List (DataW H), ds.length = 2 → Rows.statemapSetsSpec.fn H ds = { results := [.lit (.bool true)], args := ds }
  | [], h => by simp at h
  | [_], h => by simp at h
  | [d0, d1], _ => rfl
  | _ :: _ :: _ :: _, h => by simp at h
set_option maxRecDepth 100000 in
theorem StatemapSets_lifted (os : Os) (started : os.Started) (H : Type) (enc : TypeId × Value → H) :
    ReturnsInHanded {} Try.checked os 4 .any (Rows.statemapSetsSpec.pre6 enc Try.prog Try.f4 Rows.statemapSetsRow.domain false) (Rows.statemapSetsSpec.post enc Try.prog Try.f4 false true false false) := by
  refine returnsInHanded_of_change (C := Try.checked) StatemapSets_own started (by kernel_rfl) Try.func4
    (ChangeSpec.witness6 (enc := enc) (C := Try.checked) false ⟨#[], #[.slice none 0 0, .agg #[.int .i64 0, .string ⟨#[]⟩, .int .i64 0]], []⟩ 12 (by kernel_rfl) (by kernel_rfl) (by kernel_rfl) (by kernel_rfl)) ?_
  intro W base args ds gs before hval hW hcnd _
  have ho : OpensArgs Try.prog Try.f4.params.toList _ _ := opensArgs_cons (opensArg_one (by kernel_rfl) opEnts) (opensArgs_cons (opensArg_agg (by kernel_rfl) opEnt) (opensArgs_nil))
  exact law_calls (fn := Try.f4) (bt := 4) StatemapSets_laidOut (by rw [Try.params4]; intro t ht; simp only [List.mem_cons, List.not_mem_nil, or_false] at ht; rcases ht with rfl | rfl <;> exact ⟨by kernel_rfl, of_decide_eq_true (by kernel_rfl)⟩) rfl (by kernel_rfl) (by kernel_rfl) (fun ds h => StatemapSets_fn ds (by rw [Try.params4] at h; exact h)) ho (fun x _ => sets_law x.1 x.2.1) hval hW
theorem StatemapSets_holds : Rows.StatemapSetsSaid :=
  OpenClaim.holds_of_wide 4 Try.f4 rfl rfl rfl rfl rfl rfl rfl ⟨rfl, rfl, rfl, rfl, rfl⟩ rfl rfl rfl rfl rfl (by kernel_rfl) Try.func4 (by kernel_rfl)
    (of_decide_eq_true (by kernel_rfl)) (by unfold Func.isWrapper; rw [if_neg (by decide +kernel)]; exact ⟨rfl, rfl⟩)
    (fun os started H enc _ => StatemapSets_lifted os started H enc)
end Go.Proofs.Ytlhaopapeggefaa
