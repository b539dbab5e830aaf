/- Contracts: lists of numbers in the reference. No condition. -/
import Derived.Test.YtckoolpjphhfdaaTt
import Derived.Test.YtckoolpjphhfdaaTb
namespace Go.Proofs.Ytckoolpjphhfdaa
open Go Go.Abs
set_option linter.unusedSimpArgs false
set_option maxHeartbeats 400000 in
theorem has_ac (l : List Int) (n : Int) : AC Try.prog 48 [ints l, I n] (B (l.contains n)) := by
  refine AC.of_body Try.func48 rfl rfl Try.ntmps48 (congrArg Array.toList Try.results48) (by simp) (pures2 (pure_ints _) (pure_I _)) (pure_B _) fun w S => AWp.bound 0 rfl fun hlen => AWp.of_vc [] ?_
  rw [ints_len] at hlen
  simp [go_sem]
  refine AWp.loop_vc [] (fun m s => ∃ k : Nat, k ≤ l.length ∧ m = l.length - k ∧ s.σ 0 = ints l ∧ s.σ 1 = I n ∧ s.σ 5 = I k ∧ ∀ j, j < k → ∀ x, l[j]? = some x → x ≠ n) l.length ⟨0, by simp [go_sem]⟩ ?_
  rintro m s ⟨k, hk, rfl, h0, h1, h5, hno⟩
  by_cases hlt : k < l.length
  · simp [go_sem, h0, h1, h5, hlt]
    by_cases hp : l[k] = n
    · simp [go_sem, h0, h1, h5, hlt, hp]
      refine PostR.ret ?_
      simp [go_sem]
      exact hp ▸ List.getElem_mem _
    · simp [go_sem, h0, h1, h5, hlt, hp]
      refine ⟨l.length - (k + 1), by omega, k + 1, by omega, rfl, ?_⟩
      simp [go_sem, h0, h1, h5, wrap_succ hlt hlen]
      intro j hj x hx
      rcases Nat.lt_succ_iff_lt_or_eq.1 hj with hj | rfl
      · exact hno j hj x hx
      · rw [List.getElem?_eq_getElem hlt] at hx; cases hx; exact hp
  · simp [go_sem, h0, h1, h5, hlt]
    refine PostR.ret ?_
    simp [go_sem]
    intro hm
    obtain ⟨j, hj, hx⟩ := List.mem_iff_getElem.1 hm
    exact hno j (by omega) n (by rw [List.getElem?_eq_getElem hj, hx]) rfl

end Go.Proofs.Ytckoolpjphhfdaa
