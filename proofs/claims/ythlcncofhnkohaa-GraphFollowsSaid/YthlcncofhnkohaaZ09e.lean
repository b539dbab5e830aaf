/- The law GraphFollows returns true for every input and leaves its arguments as they were.
It holds for every input. Conditions: none. -/
import Derived.Test.YthlcncofhnkohaaRows
import Derived.ProofKit
import Derived.Test.YthlcncofhnkohaaTe
import Derived.Test.YthlcncofhnkohaaG11
namespace Go.Proofs.Ythlcncofhnkohaa
open Go Go.Abs Go.ChangeShapes Go.WideShapes Go.ChangeAt Go.RowKit
theorem opTrio : Opens Try.prog 52 (fun x : Int × Int × Int => [I x.1, I x.2.1, I x.2.2]) (fun _ => True) := by
  have h := opens_struct Try.underlying52 (by kernel_rfl) (opensFs_cons rfl (by kernel_rfl) (by intros; rfl) opI (opensFs_cons rfl (by kernel_rfl) (by intros; rfl) opI (opensFs_cons rfl (by kernel_rfl) (by intros; rfl) opI opensFs_nil)))
  exact h.map (fun x => (x.1, x.2.1, x.2.2.1)) (fun _ _ => rfl) (fun _ _ => trivial)
theorem GraphFollows_own : ownKnob Try.prog.godebug = none := by kernel_rfl
theorem GraphFollows_laidOut : laidOutB Try.prog = true := by kernel_rfl
theorem GraphFollows_fn {H : Type} : ∀ ds : List (DataW H), ds.length = 2 → Rows.graphFollowsSpec.fn H ds = { results := [.lit (.bool true)], args := ds }
  | [], h => by simp at h
  | [_], h => by simp at h
  | [d0, d1], _ => rfl
  | _ :: _ :: _ :: _, h => by simp at h
set_option maxRecDepth 100000 in
theorem GraphFollows_lifted (os : Os) (started : os.Started) (H : Type) (enc : TypeId × Value → H) :
    ReturnsInHanded {} Try.checked os 10 .any (Rows.graphFollowsSpec.pre6 enc Try.prog Try.f10 Rows.graphFollowsRow.domain false) (Rows.graphFollowsSpec.post enc Try.prog Try.f10 false true false false) := by
  refine returnsInHanded_of_change (C := Try.checked) GraphFollows_own started (by kernel_rfl) Try.func10
    (ChangeSpec.witness6 (enc := enc) (C := Try.checked) false ⟨#[], #[.slice none 0 0, .agg #[.int .i64 0, .int .i64 0, .int .i64 0]], []⟩ 12 (by kernel_rfl) (by kernel_rfl) (by kernel_rfl) (by kernel_rfl)) ?_
  intro W base args ds gs before hval hW hcnd _
  have ho : OpensArgs Try.prog Try.f10.params.toList _ _ := opensArgs_cons (opensArg_one (by kernel_rfl) opEvts) (opensArgs_cons (opensArg_agg (by kernel_rfl) opTrio) (opensArgs_nil))
  exact law_calls (fn := Try.f10) (bt := 4) GraphFollows_laidOut (by rw [Try.params10]; intro t ht; simp only [List.mem_cons, List.not_mem_nil, or_false] at ht; rcases ht with rfl | rfl <;> exact ⟨by kernel_rfl, of_decide_eq_true (by kernel_rfl)⟩) rfl (by kernel_rfl) (by kernel_rfl) (fun ds h => GraphFollows_fn ds (by rw [Try.params10] at h; exact h)) ho (fun x _ => follows9_law x.1 x.2.1.1 x.2.1.2.1 x.2.1.2.2) hval hW
theorem GraphFollows_holds : Rows.GraphFollowsSaid :=
  OpenClaim.holds_of_wide 10 Try.f10 rfl rfl rfl rfl rfl rfl rfl ⟨rfl, rfl, rfl, rfl, rfl⟩ rfl rfl rfl rfl rfl (by kernel_rfl) Try.func10 (by kernel_rfl)
    (of_decide_eq_true (by kernel_rfl)) (by unfold Func.isWrapper; rw [if_neg (by decide +kernel)]; exact ⟨rfl, rfl⟩)
    (fun os started H enc _ => GraphFollows_lifted os started H enc)
end Go.Proofs.Ythlcncofhnkohaa
