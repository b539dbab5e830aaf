/- Contracts of chapter 46: the least of a list. No condition. -/
import Derived.Test.YtgpjdkbepgomhaaV6
namespace Go.Proofs.Ytgpjdkbepgomhaa
open Go Go.Abs
set_option linter.unusedSimpArgs false
def minL : List Int → Int
  | [] => 0
  | x :: l => l.foldl (fun a b => if b < a then b else a) x
theorem minL_one (l : List Int) (h : 0 < l.length) : minL (l.take 1) = l[0] := by
  cases l with
  | nil => simp at h
  | cons x l => simp [minL]
theorem minL_succ (l : List Int) (k : Nat) (h1 : 1 ≤ k) (h : k < l.length) : minL (l.take (k + 1)) = if l[k] < minL (l.take k) then l[k] else minL (l.take k) := by
  cases l with
  | nil => simp at h
  | cons x l =>
    obtain ⟨j, rfl⟩ : ∃ j, k = j + 1 := ⟨k - 1, by omega⟩
    have hj : j < l.length := by simpa using h
    rw [List.take_succ_cons, List.take_succ_cons, List.take_succ_eq_append_getElem hj]
    simp only [minL, List.foldl_append, List.foldl_cons, List.foldl_nil, List.getElem_cons_succ]
    exact ite_congr rfl (fun _ => rfl) (fun _ => rfl)

set_option maxRecDepth 4000 in
set_option maxHeartbeats 2000000 in
theorem min_ac (l : List Int) (hne : 0 < l.length) : AC Try.prog 28 [ints l] (I (minL l)) := by
  refine AC.of_body Try.func28 rfl rfl Try.ntmps28 (congrArg Array.toList Try.results28) (by simp) (pures1 (pure_ints _)) (pure_I _) fun w S' => AWp.bound 0 rfl fun hlen => AWp.of_vc [] ?_
  rw [ints_len] at hlen
  have g0 : ¬ ((l.length : Int) < 1) := by omega
  simp [go_sem, g0, hne]
  refine AWp.loop_vc [] (fun m s => ∃ k : Nat, 1 ≤ k ∧ k ≤ l.length ∧ m = l.length - k ∧ s.σ 0 = ints l ∧ s.σ 4 = I k ∧ s.σ 3 = I (minL (l.take k))) (l.length - 1) ⟨1, by simp [go_sem, minL_one l hne]; omega⟩ ?_
  rintro m s ⟨k, hk1, hk, rfl, h0, h4, h3⟩
  by_cases hlt : k < l.length
  · simp [go_sem, h0, h3, h4, hlt]
    refine ⟨l.length - (k + 1), by omega, k + 1, by omega, by omega, rfl, by rw [wrap_succ hlt hlen]; rfl, ?_⟩
    rw [minL_succ l k hk1 hlt]
  · simp [go_sem, h0, h3, h4, hlt]
    refine PostR.ret ?_
    simp [go_sem, h3]
    rw [List.take_of_length_le (by omega)]
end Go.Proofs.Ytgpjdkbepgomhaa
