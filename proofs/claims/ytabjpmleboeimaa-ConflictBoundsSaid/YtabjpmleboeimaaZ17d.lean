/- The law ConflictBounds returns true for every input and leaves its arguments as they were.
It holds for every input. Conditions: none. -/
import Derived.Test.YtabjpmleboeimaaRows
import Derived.ProofKit
import Derived.Test.YtabjpmleboeimaaKh
namespace Go.Proofs.Ytabjpmleboeimaa
open Go Go.Abs Go.ChangeShapes Go.WideShapes Go.ChangeAt Go.RowKit
theorem opStates17 : Opens Try.prog 23 (fun l => [states l]) (fun _ => True) := (opens_slice (by kernel_rfl) (by kernel_rfl) (by decide) opEnts ents (fun _ => rfl)).map id (fun _ _ => rfl) (fun _ _ => trivial)
theorem ConflictBounds_own : ownKnob Try.prog.godebug = none := by kernel_rfl
theorem ConflictBounds_laidOut : laidOutB Try.prog = true := by kernel_rfl
theorem ConflictBounds_fn {H : Type} : ∀ ds : List (DataW H), ds.length = 2 → Rows.conflictBoundsSpec.fn H ds = { results := [.lit (.bool true)], args := ds }
  | [], h => by simp at h
  | [_], h => by simp at h
  | [d0, d1], _ => rfl
  | _ :: _ :: _ :: _, h => by simp at h
set_option maxRecDepth 100000 in
theorem ConflictBounds_lifted (os : Os) (started : os.Started) (H : Type) (enc : TypeId × Value → H) :
    ReturnsInHanded {} Try.checked os 6 .any (Rows.conflictBoundsSpec.pre6 enc Try.prog Try.f6 Rows.conflictBoundsRow.domain false) (Rows.conflictBoundsSpec.post enc Try.prog Try.f6 false true false false) := by
  refine returnsInHanded_of_change (C := Try.checked) ConflictBounds_own started (by kernel_rfl) Try.func6
    (ChangeSpec.witness6 (enc := enc) (C := Try.checked) false ⟨#[], #[.slice none 0 0, .slice none 0 0], []⟩ 12 (by kernel_rfl) (by kernel_rfl) (by kernel_rfl) (by kernel_rfl)) ?_
  intro W base args ds gs before hval hW hcnd _
  have ho : OpensArgs Try.prog Try.f6.params.toList _ _ := opensArgs_cons (opensArg_one (by kernel_rfl) opEvts) (opensArgs_cons (opensArg_one (by kernel_rfl) opStates17) (opensArgs_nil))
  exact law_calls (fn := Try.f6) (bt := 4) ConflictBounds_laidOut (by rw [Try.params6]; intro t ht; simp only [List.mem_cons, List.not_mem_nil, or_false] at ht; rcases ht with rfl | rfl <;> exact ⟨by kernel_rfl, of_decide_eq_true (by kernel_rfl)⟩) rfl (by kernel_rfl) (by kernel_rfl) (fun ds h => ConflictBounds_fn ds (by rw [Try.params6] at h; exact h)) ho (fun x _ => bounds17_law x.1 x.2.1) hval hW
theorem ConflictBounds_holds : Rows.ConflictBoundsSaid :=
  OpenClaim.holds_of_wide 6 Try.f6 rfl rfl rfl rfl rfl rfl rfl ⟨rfl, rfl, rfl, rfl, rfl⟩ rfl rfl rfl rfl rfl (by kernel_rfl) Try.func6 (by kernel_rfl)
    (of_decide_eq_true (by kernel_rfl)) (by unfold Func.isWrapper; rw [if_neg (by decide +kernel)]; exact ⟨rfl, rfl⟩)
    (fun os started H enc _ => ConflictBounds_lifted os started H enc)
end Go.Proofs.Ytabjpmleboeimaa
