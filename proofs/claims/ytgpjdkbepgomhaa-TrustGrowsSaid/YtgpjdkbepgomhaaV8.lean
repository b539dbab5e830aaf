/- Contracts of chapter 46: both Shield. No condition. -/
import Derived.Test.YtgpjdkbepgomhaaV7
namespace Go.Proofs.Ytgpjdkbepgomhaa
open Go Go.Abs
set_option linter.unusedSimpArgs false
def shieldOf (l : List Int) : Int := if l.length = 0 then 3 else minL l
set_option maxRecDepth 4000 in
set_option maxHeartbeats 2000000 in
theorem refShield_ac (l : List Int) : AC Try.prog 15 [ints l] (I (shieldOf l)) := by
  refine AC.of_body Try.func15 rfl rfl Try.ntmps15 (congrArg Array.toList Try.results15) (by simp) (pures1 (pure_ints _)) (pure_I _) fun w S' => AWp.bound 0 rfl fun hlen => AWp.of_vc [] ?_
  rw [ints_len] at hlen
  by_cases hz : l = []
  · subst hz
    simp [go_sem]
    refine PostR.ret ?_
    simp [go_sem, shieldOf]
  have hne : 0 < l.length := List.length_pos_iff.2 hz
  have hs : shieldOf l = minL l := by unfold shieldOf; rw [if_neg (by omega)]
  rw [hs]
  simp [go_sem, hz, hne]
  refine AWp.loop_vc [] (fun m s => ∃ k : Nat, 1 ≤ k ∧ k ≤ l.length ∧ m = l.length - k ∧ s.σ 0 = ints l ∧ s.σ 4 = I k ∧ s.σ 3 = I (minL (l.take k))) (l.length - 1) ⟨1, by simp [go_sem, minL_one l hne]; omega⟩ ?_
  rintro m s ⟨k, hk1, hk, rfl, h0, h4, h3⟩
  by_cases hlt : k < l.length
  · by_cases hp : l[k] < minL (l.take k)
    · simp [go_sem, h0, h3, h4, hlt, hp]
      refine ⟨l.length - (k + 1), by omega, k + 1, by omega, by omega, rfl, by rw [wrap_succ hlt hlen]; rfl, ?_⟩
      rw [minL_succ l k hk1 hlt, if_pos hp]
    · simp [go_sem, h0, h3, h4, hlt, hp]
      refine ⟨l.length - (k + 1), by omega, k + 1, by omega, by omega, rfl, by rw [wrap_succ hlt hlen]; rfl, ?_⟩
      rw [minL_succ l k hk1 hlt, if_neg hp]
  · simp [go_sem, h0, h3, h4, hlt]
    refine PostR.ret ?_
    simp [go_sem, h3]
    rw [List.take_of_length_le (by omega)]

def states4 : List Int := [0, 1, 2, 3]
set_option maxRecDepth 4000 in
set_option maxHeartbeats 2000000 in
theorem shield_ac (l : List Int) : AC Try.prog 14 [ints l] (I (shieldOf l)) := by
  refine AC.of_body Try.func14 rfl rfl Try.ntmps14 (congrArg Array.toList Try.results14) (by simp) (pures1 (pure_ints _)) (pure_I _) fun w S' => AWp.of_vc [] ?_
  by_cases hz : l = []
  · subst hz
    simp [go_sem]
    refine PostR.ret ?_
    simp [go_sem, shieldOf]
  have hne : 0 < l.length := List.length_pos_iff.2 hz
  have hs : shieldOf l = minL l := by unfold shieldOf; rw [if_neg (by omega)]
  rw [hs]
  simp [go_sem, hz]
  refine AWp.loop_vc [] (fun m s => ∃ k : Nat, k ≤ states4.length ∧ m = states4.length - k ∧ s.σ 0 = ints l ∧ s.σ 8 = ints states4 ∧ s.σ 9 = I states4.length ∧ s.σ 10 = I k) 4 ⟨0, by simp [go_sem, states4]⟩ ?_
  rintro m s ⟨k, hk, rfl, h0, h8, h9, h10⟩
  by_cases hlt : k < states4.length
  · simp [go_sem, h0, h8, h9, h10, hlt]
    refine CallSem.pure (min_ac l hne) (by simp [go_sem]) ?_
    by_cases hp : minL l = states4[k]
    · simp [go_sem, h0, h8, h9, h10, hlt, hp]
      refine PostR.ret ?_
      simp [go_sem]
    · simp [go_sem, h0, h8, h9, h10, hlt, hp]
      refine ⟨states4.length - (k + 1), by omega, k + 1, by omega, rfl, ?_⟩
      rw [wrap_succ hlt (by decide)]; rfl
  · simp [go_sem, h0, h8, h9, h10, hlt]
    refine CallSem.pure (min_ac l hne) (by simp [go_sem]) ?_
    simp [go_sem]
    refine PostR.ret ?_
    simp [go_sem]
end Go.Proofs.Ytgpjdkbepgomhaa
