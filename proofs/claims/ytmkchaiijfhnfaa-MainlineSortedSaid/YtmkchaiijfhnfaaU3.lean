/- Contracts: the library's Index and Contains; num.Has. No condition. -/
import Derived.Test.YtmkchaiijfhnfaaU2
namespace Go.Proofs.Ytmkchaiijfhnfaa
open Go Go.Abs
set_option linter.unusedSimpArgs false
set_option maxRecDepth 4000 in
set_option maxHeartbeats 1000000 in
theorem indexI_ac (l : List Int) (n : Int) : AC Try.prog 23 [ints l, I n] (I (idxI (fun x => n == x) l)) := by
  refine AC.of_body Try.func23 rfl rfl Try.ntmps23 (congrArg Array.toList Try.results23) (by simp) (pures2 (pure_ints _) (pure_I _)) (pure_I _) fun w S => AWp.bound 0 rfl fun hlen => AWp.of_vc [] ?_
  rw [ints_len] at hlen
  simp [go_sem]
  refine AWp.loop_vc [] (fun m s => ∃ k : Nat, k ≤ l.length ∧ m = l.length - k ∧ s.σ 0 = ints l ∧ s.σ 1 = I n ∧ s.σ 7 = I l.length ∧ s.σ 8 = I k ∧ ∀ j x, j < k → l[j]? = some x → (n == x) = false) l.length ⟨0, by simp [go_sem]⟩ ?_
  rintro m s ⟨k, hk, rfl, h0, h1, h7, h8, hno⟩
  by_cases hlt : k < l.length
  · simp [go_sem, h0, h1, h7, h8, hlt]
    by_cases hp : n = l[k]
    · rw [if_pos hp]
      refine PostR.ret ?_
      rw [idxI_hit hlt (by simp [hp]) hno]
      simp [go_sem]
    · rw [if_neg hp]
      refine ⟨l.length - (k + 1), by omega, k + 1, by omega, rfl, by rw [wrap_succ hlt hlen]; rfl, ?_⟩
      intro j x hj hx
      rcases Nat.lt_succ_iff_lt_or_eq.1 hj with hj | rfl
      · simpa using hno j x hj hx
      · rw [List.getElem?_eq_getElem hlt] at hx; cases hx; exact hp
  · simp [go_sem, h0, h1, h7, h8, hlt]
    refine PostR.ret ?_
    rw [idxI_miss fun j x hx => hno j x (by have := (List.getElem?_eq_some_iff.1 hx).1; omega) hx]
    simp [go_sem]

set_option maxRecDepth 4000 in
set_option maxHeartbeats 1000000 in
theorem containsI_ac (l : List Int) (n : Int) : AC Try.prog 34 [ints l, I n] (B (l.contains n)) := by
  refine AC.of_body Try.func34 rfl rfl Try.ntmps34 (congrArg Array.toList Try.results34) (by simp) (pures2 (pure_ints _) (pure_I _)) (pure_B _) fun w S => AWp.of_vc [] ?_
  simp [go_sem]
  refine CallSem.pure (indexI_ac l n) (by simp [go_sem]) ?_
  simp [go_sem]
  refine PostR.ret ?_
  have e : decide (0 ≤ idxI (fun x => n == x) l) = l.contains n := by
    rw [idxI_nonneg, List.contains_eq_any_beq]
  simp only [e]
  simp [go_sem]


end Go.Proofs.Ytmkchaiijfhnfaa
