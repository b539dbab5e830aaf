/- The law TrustGrounds returns true for every case and leaves its argument as it was.
It holds for every input. Conditions: none. -/
import Derived.Test.YtgpjdkbepgomhaaRows
import Derived.ProofKit
import Derived.Test.YtgpjdkbepgomhaaTq
import Derived.Test.YtgpjdkbepgomhaaW3
namespace Go.Proofs.Ytgpjdkbepgomhaa
open Go Go.Abs Go.ChangeShapes Go.WideShapes Go.ChangeAt Go.RowKit
theorem TrustGrounds_own : ownKnob Try.prog.godebug = none := by kernel_rfl
theorem TrustGrounds_laidOut : laidOutB Try.prog = true := by kernel_rfl
theorem TrustGrounds_fn {H : Type} : ∀ ds : List (DataW H), ds.length = 1 → Rows.trustGroundsSpec.fn H ds = { results := [.lit (.bool true)], args := ds }
  | [], h => by simp at h
  | [d0], _ => rfl
  | _ :: _ :: _, h => by simp at h
set_option maxRecDepth 100000 in
theorem TrustGrounds_lifted (os : Os) (started : os.Started) (H : Type) (enc : TypeId × Value → H) :
    ReturnsInHanded {} Try.checked os 5 .any (Rows.trustGroundsSpec.pre6 enc Try.prog Try.f5 Rows.trustGroundsRow.domain false) (Rows.trustGroundsSpec.post enc Try.prog Try.f5 false true false false) := by
  refine returnsInHanded_of_change (C := Try.checked) TrustGrounds_own started (by kernel_rfl) Try.func5
    (ChangeSpec.witness6 (enc := enc) (C := Try.checked) false ⟨#[], #[.agg #[.string ⟨#[]⟩, .int .i64 0, .int .i64 0, .slice none 0 0, .string ⟨#[]⟩, .int .i64 0, .int .i64 0, .slice none 0 0, .string ⟨#[]⟩, .slice none 0 0, .slice none 0 0, .bool false]], []⟩ 12 (by kernel_rfl) (by kernel_rfl) (by kernel_rfl) (by kernel_rfl)) ?_
  intro W base args ds gs before hval hW hcnd _
  have ho : OpensArgs Try.prog Try.f5.params.toList _ _ := opensArgs_cons (opensArg_agg (by kernel_rfl) opCase) (opensArgs_nil)
  exact law_calls (fn := Try.f5) (bt := 4) TrustGrounds_laidOut (by rw [Try.params5]; intro t ht; simp only [List.mem_cons, List.not_mem_nil, or_false] at ht; subst ht; exact ⟨by kernel_rfl, of_decide_eq_true (by kernel_rfl)⟩) rfl (by kernel_rfl) (by kernel_rfl) (fun ds h => TrustGrounds_fn ds (by rw [Try.params5] at h; exact h)) ho (fun x _ => trustGrounds_law x.1) hval hW
theorem TrustGrounds_holds : Rows.TrustGroundsSaid :=
  OpenClaim.holds_of_wide 5 Try.f5 rfl rfl rfl rfl rfl rfl rfl ⟨rfl, rfl, rfl, rfl, rfl⟩ rfl rfl rfl rfl rfl (by kernel_rfl) Try.func5 (by kernel_rfl)
    (of_decide_eq_true (by kernel_rfl)) (by unfold Func.isWrapper; rw [if_neg (by decide +kernel)]; exact ⟨rfl, rfl⟩)
    (fun os started H enc _ => TrustGrounds_lifted os started H enc)
end Go.Proofs.Ytgpjdkbepgomhaa
