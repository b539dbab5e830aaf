/- The law GraphDepths returns true for every input and leaves its arguments as they were.
It holds for every input. Conditions: none. -/
import Derived.Test.YthlcncofhnkohaaRows
import Derived.ProofKit
import Derived.Test.YthlcncofhnkohaaTe
import Derived.Test.YthlcncofhnkohaaG12
namespace Go.Proofs.Ythlcncofhnkohaa
open Go Go.Abs Go.ChangeShapes Go.WideShapes Go.ChangeAt Go.RowKit
theorem opEvtD : Opens Try.prog 46 evc (fun e : Evt => -9223372036854775808 ≤ e.depth ∧ e.depth ≤ 9223372036854775807) := by
  have h := opens_struct Try.underlying46 (by kernel_rfl) (opensFs_cons rfl (by kernel_rfl) (by intros; rfl) opI (opensFs_cons rfl (by kernel_rfl) (by intros; rfl) opS (opensFs_cons rfl (by kernel_rfl) (by intros; rfl) opS (opensFs_cons rfl (by kernel_rfl) (by intros; rfl) opKindE (opensFs_cons rfl (by kernel_rfl) (by intros; rfl) opB (opensFs_cons rfl (by kernel_rfl) (by intros; rfl) opS (opensFs_cons rfl (by kernel_rfl) (by intros; rfl) opI (opensFs_cons rfl (by kernel_rfl) (by intros; rfl) opI (opensFs_cons rfl (by kernel_rfl) (by intros; rfl) opIntsE (opensFs_cons rfl (by kernel_rfl) (by intros; rfl) opIntsE (opensFs_cons (s1 := 16) rfl (by kernel_rfl) (by intros; rfl) opContent (opensFs_cons rfl (by kernel_rfl) (by intros; rfl) opI (opensFs_cons (s1 := 2) rfl (by kernel_rfl) (by intros; rfl) opSig opensFs_nil)))))))))))))
  exact h.map (fun x => ⟨x.1, x.2.1, x.2.2.1, x.2.2.2.1, x.2.2.2.2.1, x.2.2.2.2.2.1, x.2.2.2.2.2.2.1, x.2.2.2.2.2.2.2.1, x.2.2.2.2.2.2.2.2.1, x.2.2.2.2.2.2.2.2.2.1, x.2.2.2.2.2.2.2.2.2.2.1, x.2.2.2.2.2.2.2.2.2.2.2.1, x.2.2.2.2.2.2.2.2.2.2.2.2.1⟩) (fun _ _ => rfl) (fun _ hx => hx.2.2.2.2.2.2.2.1)
theorem opEvtsD : Opens Try.prog 22 (fun l => [evs l]) InR := (opens_slice (by kernel_rfl) (by kernel_rfl) (by decide) opEvtD ev (fun _ => rfl)).map id (fun _ _ => rfl) (fun _ h => h)
theorem GraphDepths_own : ownKnob Try.prog.godebug = none := by kernel_rfl
theorem GraphDepths_laidOut : laidOutB Try.prog = true := by kernel_rfl
theorem GraphDepths_fn {H : Type} : ∀ ds : List (DataW H), ds.length = 3 → Rows.graphDepthsSpec.fn H ds = { results := [.lit (.bool true)], args := ds }
  | [], h => by simp at h
  | [_], h => by simp at h
  | [_, _], h => by simp at h
  | [d0, d1, d2], _ => rfl
  | _ :: _ :: _ :: _ :: _, h => by simp at h
set_option maxRecDepth 100000 in
theorem GraphDepths_lifted (os : Os) (started : os.Started) (H : Type) (enc : TypeId × Value → H) :
    ReturnsInHanded {} Try.checked os 6 .any (Rows.graphDepthsSpec.pre6 enc Try.prog Try.f6 Rows.graphDepthsRow.domain false) (Rows.graphDepthsSpec.post enc Try.prog Try.f6 false true false false) := by
  refine returnsInHanded_of_change (C := Try.checked) GraphDepths_own started (by kernel_rfl) Try.func6
    (ChangeSpec.witness6 (enc := enc) (C := Try.checked) false ⟨#[], #[.slice none 0 0, .int .i64 0, .int .i64 0], []⟩ 12 (by kernel_rfl) (by kernel_rfl) (by kernel_rfl) (by kernel_rfl)) ?_
  intro W base args ds gs before hval hW hcnd _
  have ho : OpensArgs Try.prog Try.f6.params.toList _ _ := opensArgs_cons (opensArg_one (by kernel_rfl) opEvtsD) (opensArgs_cons (opensArg_one (by kernel_rfl) opI) (opensArgs_cons (opensArg_one (by kernel_rfl) opI) (opensArgs_nil)))
  exact law_calls (fn := Try.f6) (bt := 4) GraphDepths_laidOut (by rw [Try.params6]; intro t ht; simp only [List.mem_cons, List.not_mem_nil, or_false] at ht; rcases ht with rfl | rfl | rfl <;> exact ⟨by kernel_rfl, of_decide_eq_true (by kernel_rfl)⟩) rfl (by kernel_rfl) (by kernel_rfl) (fun ds h => GraphDepths_fn ds (by rw [Try.params6] at h; exact h)) ho (fun x hx => depths9_law x.1 x.2.1 x.2.2.1 hx.1) hval hW
theorem GraphDepths_holds : Rows.GraphDepthsSaid :=
  OpenClaim.holds_of_wide 6 Try.f6 rfl rfl rfl rfl rfl rfl rfl ⟨rfl, rfl, rfl, rfl, rfl⟩ rfl rfl rfl rfl rfl (by kernel_rfl) Try.func6 (by kernel_rfl)
    (of_decide_eq_true (by kernel_rfl)) (by unfold Func.isWrapper; rw [if_neg (by decide +kernel)]; exact ⟨rfl, rfl⟩)
    (fun os started H enc _ => GraphDepths_lifted os started H enc)
end Go.Proofs.Ythlcncofhnkohaa
