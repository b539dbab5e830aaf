/- Contracts of chapter 01: Clip, Add, Max, BinarySearch, Union, Minus. No condition. -/
import Derived.Test.YthlcncofhnkohaaP1
namespace Go.Proofs.Ythlcncofhnkohaa
open Go Go.Abs
set_option linter.unusedSimpArgs false
theorem wrapOf {n : Int} (h1 : -9223372036854775808 ≤ n) (h2 : n ≤ 9223372036854775807) : IntKind.i64.wrap n = n := wrap_i64 h1 h2
theorem wrap_natN {k : Nat} (hm : k ≤ maxLen) : IntKind.i64.wrap (k : Int) = (k : Int) := wrap_i64 (by omega) (by unfold maxLen at hm; omega)
def clipOf (n lo hi : Int) : Int := if hi < lo then lo else if n < lo then lo else if hi < n then hi else n


def boundOf (n : Int) : Int := clipOf n (-1000000000000) 1000000000000
theorem bound_in (n : Int) : -1000000000000 ≤ boundOf n ∧ boundOf n ≤ 1000000000000 := by
  unfold boundOf clipOf
  split
  · omega
  · split
    · omega
    · split <;> omega
def addOf (a b : Int) : Int := boundOf (boundOf a + boundOf b)
theorem add_wrap (a b : Int) : IntKind.i64.wrap (boundOf a + boundOf b) = boundOf a + boundOf b := by
  have h1 := bound_in a
  have h2 := bound_in b
  exact wrapOf (by omega) (by omega)



theorem add_comm' (a b : Int) : addOf a b = addOf b a := by unfold addOf; rw [Int.add_comm]
/-- The greatest of a number and a list. -/
def maxF (m : Int) (l : List Int) : Int := l.foldl (fun a b => if a < b then b else a) m
def maxOf : List Int → Option Int
  | [] => none
  | x :: l => some (maxF x l)
theorem maxF_snoc (m : Int) (l : List Int) (x : Int) : maxF m (l ++ [x]) = if maxF m l < x then x else maxF m l := by
  unfold maxF
  rw [List.foldl_append]; rfl
theorem maxF_mem : ∀ (l : List Int) (m : Int), (maxF m l = m ∨ maxF m l ∈ l) ∧ m ≤ maxF m l ∧ ∀ x ∈ l, x ≤ maxF m l
  | [], m => ⟨.inl rfl, Int.le_refl _, fun x hx => by cases hx⟩
  | y :: l, m => by
    obtain ⟨h1, h2, h3⟩ := maxF_mem l (if m < y then y else m)
    have hE : maxF m (y :: l) = maxF (if m < y then y else m) l := rfl
    rw [hE]
    refine ⟨?_, ?_, fun x hx => ?_⟩
    · rcases h1 with h1 | h1
      · rw [h1]
        split
        · exact .inr (List.mem_cons_self ..)
        · exact .inl rfl
      · exact .inr (List.mem_cons_of_mem _ h1)
    · refine Int.le_trans ?_ h2
      split <;> omega
    · rcases List.mem_cons.1 hx with rfl | hx
      · refine Int.le_trans ?_ h2
        split <;> omega
      · exact h3 x hx
def optN (o : Option Int) : AV := .tup [I (o.getD 0), B o.isSome]
theorem pureR_optN (o : Option Int) : PureR (optN o) := by
  intro r hr
  simp only [List.mem_cons, List.not_mem_nil, or_false] at hr
  rcases hr with rfl | rfl
  · exact pure_I _
  · exact pure_B _
attribute [go_sem] optN


end Go.Proofs.Ythlcncofhnkohaa
