/- Contracts of chapter 46: places and texts. No condition. -/
import Derived.Test.YtgpjdkbepgomhaaP1
import Derived.Test.YtgpjdkbepgomhaaTc
namespace Go.Proofs.Ytgpjdkbepgomhaa
open Go Go.Abs
set_option linter.unusedSimpArgs false
set_option maxRecDepth 4000 in
set_option maxHeartbeats 1000000 in
theorem place_ac (l : List DevD) (d : Bytes) : AC Try.prog 18 [dvs l, S d] (I (idxI (fun x => x.id == d) l)) := by
  refine AC.of_body Try.func18 rfl rfl Try.ntmps18 (congrArg Array.toList Try.results18) (by simp) (pures2 (pure_dvs _) (pure_S _)) (pure_I _) fun w S' => AWp.bound 0 rfl fun hlen => AWp.of_vc [] ?_
  rw [dvs_len] at hlen
  simp [go_sem]
  refine AWp.loop_vc [] (fun m s => ∃ k : Nat, k ≤ l.length ∧ m = l.length - k ∧ s.σ 0 = dvs l ∧ s.σ 1 = S d ∧ s.σ 5 = I k ∧ ∀ j (x : DevD), j < k → l[j]? = some x → (x.id == d) = false) l.length ⟨0, by simp [go_sem]⟩ ?_
  rintro m s ⟨k, hk, rfl, h0, h1, h5, hno⟩
  by_cases hlt : k < l.length
  · simp [go_sem, h0, h1, h5, hlt]
    by_cases hp : l[k].id = d
    · rw [if_pos hp]
      refine PostR.ret ?_
      rw [idxI_hit hlt (by simp [hp]) hno]
      simp [go_sem]
    · rw [if_neg hp]
      refine ⟨l.length - (k + 1), by omega, k + 1, by omega, rfl, by rw [wrap_succ hlt hlen]; rfl, ?_⟩
      intro j x hj hx
      rcases Nat.lt_succ_iff_lt_or_eq.1 hj with hj | rfl
      · simpa using hno j x hj hx
      · rw [List.getElem?_eq_getElem hlt] at hx; cases hx; exact hp
  · simp [go_sem, h0, h1, h5, hlt]
    refine PostR.ret ?_
    rw [idxI_miss fun j x hx => hno j x (by have := (List.getElem?_eq_some_iff.1 hx).1; omega) hx]
    simp [go_sem]

set_option maxRecDepth 4000 in
set_option maxHeartbeats 1000000 in
theorem hasText_ac (l : List Bytes) (n : Bytes) : AC Try.prog 19 [strs l, S n] (B (l.contains n)) := by
  refine AC.of_body Try.func19 rfl rfl Try.ntmps19 (congrArg Array.toList Try.results19) (by simp) (pures2 (pure_strs _) (pure_S _)) (pure_B _) fun w S' => AWp.bound 0 rfl fun hlen => AWp.of_vc [] ?_
  rw [strs_len] at hlen
  simp [go_sem]
  refine AWp.loop_vc [] (fun m s => ∃ k : Nat, k ≤ l.length ∧ m = l.length - k ∧ s.σ 0 = strs l ∧ s.σ 1 = S n ∧ s.σ 5 = I k ∧ ∀ j, j < k → ∀ x, l[j]? = some x → x ≠ n) l.length ⟨0, by simp [go_sem]⟩ ?_
  rintro m s ⟨k, hk, rfl, h0, h1, h5, hno⟩
  by_cases hlt : k < l.length
  · simp [go_sem, h0, h1, h5, hlt]
    by_cases hp : l[k] = n
    · rw [if_pos hp]
      refine PostR.ret ?_
      simp [go_sem]
      exact hp ▸ List.getElem_mem _
    · rw [if_neg hp]
      refine ⟨l.length - (k + 1), by omega, k + 1, by omega, rfl, by rw [wrap_succ hlt hlen]; rfl, ?_⟩
      intro j hj x hx
      rcases Nat.lt_succ_iff_lt_or_eq.1 hj with hj | rfl
      · exact hno j hj x hx
      · rw [List.getElem?_eq_getElem hlt] at hx; cases hx; exact hp
  · simp [go_sem, h0, h1, h5, hlt]
    refine PostR.ret ?_
    simp [go_sem]
    intro hm
    obtain ⟨j, hj, hx⟩ := List.mem_iff_getElem.1 hm
    exact hno j (by omega) n (by rw [List.getElem?_eq_getElem hj, hx]) rfl

set_option maxRecDepth 4000 in
set_option maxHeartbeats 1000000 in
theorem indexS_ac (l : List Bytes) (n : Bytes) : AC Try.prog 38 [strs l, S n] (I (idxI (fun x => n == x) l)) := by
  refine AC.of_body Try.func38 rfl rfl Try.ntmps38 (congrArg Array.toList Try.results38) (by simp) (pures2 (pure_strs _) (pure_S _)) (pure_I _) fun w S' => AWp.bound 0 rfl fun hlen => AWp.of_vc [] ?_
  rw [strs_len] at hlen
  simp [go_sem]
  refine AWp.loop_vc [] (fun m s => ∃ k : Nat, k ≤ l.length ∧ m = l.length - k ∧ s.σ 0 = strs l ∧ s.σ 1 = S n ∧ s.σ 7 = I l.length ∧ s.σ 8 = I k ∧ ∀ j x, j < k → l[j]? = some x → (n == x) = false) l.length ⟨0, by simp [go_sem]⟩ ?_
  rintro m s ⟨k, hk, rfl, h0, h1, h7, h8, hno⟩
  by_cases hlt : k < l.length
  · simp [go_sem, h0, h1, h7, h8, hlt]
    by_cases hp : n = l[k]
    · rw [if_pos hp]
      refine PostR.ret ?_
      rw [idxI_hit hlt (by simp [hp]) hno]
      simp [go_sem]
    · rw [if_neg hp]
      refine ⟨l.length - (k + 1), by omega, k + 1, by omega, rfl, by rw [wrap_succ hlt hlen]; rfl, ?_⟩
      intro j x hj hx
      rcases Nat.lt_succ_iff_lt_or_eq.1 hj with hj | rfl
      · simpa using hno j x hj hx
      · rw [List.getElem?_eq_getElem hlt] at hx; cases hx; exact hp
  · simp [go_sem, h0, h1, h7, h8, hlt]
    refine PostR.ret ?_
    rw [idxI_miss fun j x hx => hno j x (by have := (List.getElem?_eq_some_iff.1 hx).1; omega) hx]
    simp [go_sem]

set_option maxRecDepth 4000 in
set_option maxHeartbeats 1000000 in
theorem containsS_ac (l : List Bytes) (n : Bytes) : AC Try.prog 34 [strs l, S n] (B (l.contains n)) := by
  refine AC.of_body Try.func34 rfl rfl Try.ntmps34 (congrArg Array.toList Try.results34) (by simp) (pures2 (pure_strs _) (pure_S _)) (pure_B _) fun w S' => AWp.of_vc [] ?_
  simp [go_sem]
  refine CallSem.pure (indexS_ac l n) (by simp [go_sem]) ?_
  simp [go_sem]
  refine PostR.ret ?_
  have e : decide (0 ≤ idxI (fun x => n == x) l) = l.contains n := by
    rw [idxI_nonneg, List.contains_eq_any_beq]
  simp only [e]
  simp [go_sem]
end Go.Proofs.Ytgpjdkbepgomhaa
