/- The law ConflictOrders returns true for every input and leaves its arguments as they were.
It holds for every input. Conditions: none. -/
import Derived.Test.YtabjpmleboeimaaRows
import Derived.ProofKit
import Derived.Test.YtabjpmleboeimaaKh
namespace Go.Proofs.Ytabjpmleboeimaa
open Go Go.Abs Go.ChangeShapes Go.WideShapes Go.ChangeAt Go.RowKit
theorem opStates17 : Opens Try.prog 23 (fun l => [states l]) (fun _ => True) := (opens_slice (by kernel_rfl) (by kernel_rfl) (by decide) opEnts ents (fun _ => rfl)).map id (fun _ _ => rfl) (fun _ _ => trivial)
theorem opU8 : Opens Try.prog 5 (fun t : Nat => [.v (.int .u8 (t : Int))]) (fun t => t ≤ 255) :=
  (opens_int (k := .u8) (by kernel_rfl)).map Int.toNat (fun n h => by have h0 : 0 ≤ n := h.1; show [AV.v (Value.int .u8 ((n.toNat : Nat) : Int))] = [AV.v (Value.int .u8 n)]; rw [Int.toNat_of_nonneg h0]) (fun n h => by have h1 : n ≤ 255 := h.2; omega)
theorem ConflictOrders_own : ownKnob Try.prog.godebug = none := by kernel_rfl
theorem ConflictOrders_laidOut : laidOutB Try.prog = true := by kernel_rfl
theorem ConflictOrders_fn {H : Type} : ∀ ds : List (DataW H), ds.length = 3 → Rows.conflictOrdersSpec.fn H ds = { results := [.lit (.bool true)], args := ds }
  | [], h => by simp at h
  | [_], h => by simp at h
  | [_, _], h => by simp at h
  | [d0, d1, d2], _ => rfl
  | _ :: _ :: _ :: _ :: _, h => by simp at h
set_option maxRecDepth 100000 in
theorem ConflictOrders_lifted (os : Os) (started : os.Started) (H : Type) (enc : TypeId × Value → H) :
    ReturnsInHanded {} Try.checked os 5 .any (Rows.conflictOrdersSpec.pre6 enc Try.prog Try.f5 Rows.conflictOrdersRow.domain false) (Rows.conflictOrdersSpec.post enc Try.prog Try.f5 false true false false) := by
  refine returnsInHanded_of_change (C := Try.checked) ConflictOrders_own started (by kernel_rfl) Try.func5
    (ChangeSpec.witness6 (enc := enc) (C := Try.checked) false ⟨#[], #[.slice none 0 0, .slice none 0 0, .int .u8 0], []⟩ 12 (by kernel_rfl) (by kernel_rfl) (by kernel_rfl) (by kernel_rfl)) ?_
  intro W base args ds gs before hval hW hcnd _
  have ho : OpensArgs Try.prog Try.f5.params.toList _ _ := opensArgs_cons (opensArg_one (by kernel_rfl) opEvts) (opensArgs_cons (opensArg_one (by kernel_rfl) opStates17) (opensArgs_cons (opensArg_one (by kernel_rfl) opU8) (opensArgs_nil)))
  exact law_calls (fn := Try.f5) (bt := 4) ConflictOrders_laidOut (by rw [Try.params5]; intro t ht; simp only [List.mem_cons, List.not_mem_nil, or_false] at ht; rcases ht with rfl | rfl | rfl <;> exact ⟨by kernel_rfl, of_decide_eq_true (by kernel_rfl)⟩) rfl (by kernel_rfl) (by kernel_rfl) (fun ds h => ConflictOrders_fn ds (by rw [Try.params5] at h; exact h)) ho (fun x hx => orders17_law x.1 x.2.1 x.2.2.1 hx.2.2.1) hval hW
theorem ConflictOrders_holds : Rows.ConflictOrdersSaid :=
  OpenClaim.holds_of_wide 5 Try.f5 rfl rfl rfl rfl rfl rfl rfl ⟨rfl, rfl, rfl, rfl, rfl⟩ rfl rfl rfl rfl rfl (by kernel_rfl) Try.func5 (by kernel_rfl)
    (of_decide_eq_true (by kernel_rfl)) (by unfold Func.isWrapper; rw [if_neg (by decide +kernel)]; exact ⟨rfl, rfl⟩)
    (fun os started H enc _ => ConflictOrders_lifted os started H enc)
end Go.Proofs.Ytabjpmleboeimaa
