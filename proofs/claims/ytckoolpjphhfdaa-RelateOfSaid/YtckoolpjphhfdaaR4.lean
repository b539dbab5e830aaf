/- Chapter 36: the comparison of reactions, by the kit's walk. No condition. -/
import Derived.Test.YtckoolpjphhfdaaR3
import Derived.Test.YtckoolpjphhfdaaTs
import Derived.Test.YtckoolpjphhfdaaFw
import Derived.Test.YtckoolpjphhfdaaLa
namespace Go.Proofs.Ytckoolpjphhfdaa
open Go Go.Abs Go.Shelf Go.RowKit Go.Lib Go.Sort Go.Proofs
set_option linter.unusedSimpArgs false
set_option linter.unusedVariables false
abbrev tx (b : Bytes) : ByteArray := ⟨b.toArray⟩
/-- A text with its number. -/
def ctc36 (c : Bytes → Int) (b : Bytes) : List Value := [.string (tx b), .int .i64 (c b)]
def cmpB (a b : Bytes) : Int := compareBytes a b
set_option maxHeartbeats 4000000 in
theorem closure36_calls (c : Bytes → Int) (x y : Bytes) (W : World) : Calls Try.prog 43 #[.agg (ctc36 c x).toArray, .agg (ctc36 c y).toArray] W fun e w' => e = .returned (.int .i64 (cmpB x y)) ∧ ∃ q os', w' = grow (W.drewN q) os' := by
  have hcon := fun W => Any.strings_Compare Try.laysStrCmp (tx x) (tx y) W
  have he : (tx x).data.toList = x ∧ (tx y).data.toList = y := ⟨rfl, rfl⟩
  rw [he.1, he.2] at hcon
  show Calls Try.prog 43 #[.agg #[.string (tx x), .int .i64 (c x)], .agg #[.string (tx y), .int .i64 (c y)]] W fun e w' => e = .returned (.int .i64 (cmpB x y)) ∧ ∃ q os', w' = grow (W.drewN q) os'
  change ∀ W, Calls Try.prog 44 #[.string (tx x), .string (tx y)] W fun e w' => e = .returned (.int .i64 (cmpB x y)) ∧ w' = W at hcon
  generalize cmpB x y = r at hcon ⊢
  generalize tx x = X at hcon ⊢
  generalize tx y = Y at hcon ⊢
  generalize c x = cx
  generalize c y = cy
  go_enter Try.func43, Try.ntmps43
  go_wp2_with (go_at_call 44; refine (hcon _).mono ?_; rintro e w' ⟨rfl, rfl⟩)
  go_ret
  exact ⟨rfl, 0, _, by rw [alloc_eq_grow, alloc_eq_grow, grow_grow]; rfl⟩
theorem cmpB_cons (a b : UInt8) (x y : Bytes) : cmpB (a :: x) (b :: y) = if a < b then -1 else if b < a then 1 else cmpB x y := rfl
def bl (x y : Bytes) : Bool := Op.bytesLess x y
theorem cmpB_lt : ∀ (x y : Bytes), ltOf cmpB x y = Op.bytesLess x y
  | [], [] => by simp [ltOf, cmpB, compareBytes, Op.bytesLess]
  | [], b :: y => by simp [ltOf, cmpB, compareBytes, Op.bytesLess]
  | a :: x, [] => by simp [ltOf, cmpB, compareBytes, Op.bytesLess]
  | a :: x, b :: y => by
    have ih := cmpB_lt x y
    unfold ltOf at ih ⊢
    rw [cmpB_cons]
    unfold Op.bytesLess
    by_cases h1 : a < b
    · simp [h1]
    · by_cases h2 : b < a
      · have : ¬ a = b := fun he => by subst he; exact h1 h2
        simp [h1, h2, this]
      · have : a = b := by
          apply UInt8.toNat_inj.1
          have e1 : ¬ a.toNat < b.toNat := fun h => h1 (UInt8.lt_iff_toNat_lt.2 h)
          have e2 : ¬ b.toNat < a.toNat := fun h => h2 (UInt8.lt_iff_toNat_lt.2 h)
          omega
        subst this
        simp only [h1, if_false]
        simpa using ih
end Go.Proofs.Ytckoolpjphhfdaa
