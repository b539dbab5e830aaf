/- The law StatemapEvents returns true for every list of events and every state and leaves its arguments as they were.
It holds for every input. Conditions: none. -/
import Derived.Test.YtlhaopapeggefaaRows
import Derived.ProofKit
import Derived.Test.YtlhaopapeggefaaTr
import Derived.Test.YtlhaopapeggefaaTe
import Derived.Test.YtlhaopapeggefaaS13
namespace Go.Proofs.Ytlhaopapeggefaa
open Go Go.Abs Go.ChangeShapes Go.WideShapes Go.ChangeAt Go.RowKit
theorem StatemapEvents_own : ownKnob Try.prog.godebug = none := by kernel_rfl
theorem StatemapEvents_laidOut : laidOutB Try.prog = true := by kernel_rfl
theorem StatemapEvents_fn {H : Type} : ∀ ds : List (DataW H), ds.length = 2 → Rows.statemapEventsSpec.fn H ds = { results := [.lit (.bool true)], args := ds }
  | [], h => by simp at h
  | [_], h => by simp at h
  | [d0, d1], _ => rfl
  | _ :: _ :: _ :: _, h => by simp at h
set_option maxRecDepth 100000 in
theorem StatemapEvents_lifted (os : Os) (started : os.Started) (H : Type) (enc : TypeId × Value → H) :
    ReturnsInHanded {} Try.checked os 9 .any (Rows.statemapEventsSpec.pre6 enc Try.prog Try.f9 Rows.statemapEventsRow.domain false) (Rows.statemapEventsSpec.post enc Try.prog Try.f9 false true false false) := by
  refine returnsInHanded_of_change (C := Try.checked) StatemapEvents_own started (by kernel_rfl) Try.func9
    (ChangeSpec.witness6 (enc := enc) (C := Try.checked) false ⟨#[], #[.slice none 0 0, .slice none 0 0], []⟩ 12 (by kernel_rfl) (by kernel_rfl) (by kernel_rfl) (by kernel_rfl)) ?_
  intro W base args ds gs before hval hW hcnd _
  have ho : OpensArgs Try.prog Try.f9.params.toList _ _ := opensArgs_cons (opensArg_one (by kernel_rfl) opEvts) (opensArgs_cons (opensArg_one (by kernel_rfl) opEnts) (opensArgs_nil))
  exact law_calls (fn := Try.f9) (bt := 4) StatemapEvents_laidOut (by rw [Try.params9]; intro t ht; simp only [List.mem_cons, List.not_mem_nil, or_false] at ht; rcases ht with rfl | rfl <;> exact ⟨by kernel_rfl, of_decide_eq_true (by kernel_rfl)⟩) rfl (by kernel_rfl) (by kernel_rfl) (fun ds h => StatemapEvents_fn ds (by rw [Try.params9] at h; exact h)) ho (fun x _ => events_law x.1 x.2.1) hval hW
theorem StatemapEvents_holds : Rows.StatemapEventsSaid :=
  OpenClaim.holds_of_wide 9 Try.f9 rfl rfl rfl rfl rfl rfl rfl ⟨rfl, rfl, rfl, rfl, rfl⟩ rfl rfl rfl rfl rfl (by kernel_rfl) Try.func9 (by kernel_rfl)
    (of_decide_eq_true (by kernel_rfl)) (by unfold Func.isWrapper; rw [if_neg (by decide +kernel)]; exact ⟨rfl, rfl⟩)
    (fun os started H enc _ => StatemapEvents_lifted os started H enc)
end Go.Proofs.Ytlhaopapeggefaa
