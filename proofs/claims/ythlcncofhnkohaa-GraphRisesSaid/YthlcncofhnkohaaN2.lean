/- Contracts of chapter 01: BinarySearch, Union, Minus. No condition. -/
import Derived.Test.YthlcncofhnkohaaN1
namespace Go.Proofs.Ythlcncofhnkohaa
open Go Go.Abs
set_option linter.unusedSimpArgs false
theorem below_stepN {α : Type} {l : List α} {P : α → Prop} {k : Nat} (hk : k < l.length) (h : ∀ (j : Nat) x, j < k → l[j]? = some x → P x) (hp : P l[k]) : ∀ (j : Nat) x, j < k + 1 → l[j]? = some x → P x := by
  intro j x hj hx
  rcases Nat.lt_succ_iff_lt_or_eq.1 hj with hj | rfl
  · exact h j x hj hx
  · rw [List.getElem?_eq_getElem hk] at hx; cases hx; exact hp
theorem takeWhile_lenN {α : Type} (p : α → Bool) : ∀ (l : List α) (k : Nat), k ≤ l.length → (∀ (j : Nat) x, j < k → l[j]? = some x → p x = true) → (∀ x, l[k]? = some x → p x = false) → (l.takeWhile p).length = k
  | [], k, hk, _, _ => by simp at hk; simp [hk]
  | x :: l, 0, _, _, h2 => by simp [List.takeWhile_cons, h2 x rfl]
  | x :: l, k + 1, hk, h1, h2 => by
    rw [List.takeWhile_cons, h1 0 x (by omega) rfl]
    simp only [if_true, List.length_cons]
    rw [takeWhile_lenN p l k (by simpa using hk) (fun j y hj hy => h1 (j + 1) y (by omega) (by simpa using hy)) (fun y hy => h2 y (by simpa using hy))]
def hasI (l : List Int) (n : Int) : Bool := l.contains n
theorem hasI_iff {l : List Int} {n : Int} : hasI l n = true ↔ n ∈ l := by unfold hasI; simp
theorem wrap_u64 {n : Int} (h1 : 0 ≤ n) (h2 : n < 18446744073709551616) : IntKind.u64.wrap n = n := by
  simp [IntKind.wrap, IntKind.bits, IntKind.signed]; omega
theorem wrap_u8 {n : Int} (h1 : 0 ≤ n) (h2 : n < 256) : IntKind.u8.wrap n = n := by
  simp [IntKind.wrap, IntKind.bits, IntKind.signed]; omega
def minusOf (a b : List Int) : List Int := (sortedL a).filter fun n => !hasI b n
theorem filter_takeN {α : Type} (p : α → Bool) (l : List α) (k : Nat) (h : k < l.length) : (l.take (k + 1)).filter p = if p l[k] = true then (l.take k).filter p ++ [l[k]] else (l.take k).filter p := by
  rw [List.take_succ_eq_append_getElem h, List.filter_append]
  split
  · rename_i hp; simp [hp]
  · rename_i hp; simp [hp]
theorem sortedL_lenN (a : List Int) : (sortedL a).length ≤ a.length := by
  have := foldl_putL_len a []
  simp only [List.length_nil] at this
  unfold sortedL; omega
theorem hasI_sorted (b : List Int) (n : Int) : hasI (sortedL b) n = hasI b n := by
  apply Bool.eq_iff_iff.2
  rw [hasI_iff, hasI_iff]
  exact (sortedL_sorted b).2 n

set_option maxRecDepth 8000 in
set_option maxHeartbeats 4000000 in
theorem rminus_ac (a b : List Int) (ha : a.length ≤ 100000) : AC Try.prog 33 [ints a, ints b] (ints (minusOf a b)) := by
  refine AC.of_body Try.func33 rfl rfl Try.ntmps33 (congrArg Array.toList Try.results33) (by simp) (pures2 (pure_ints _) (pure_ints _)) (pureR_ints _) fun w S' => AWp.of_vc [10] ?_
  have hal := sortedL_lenN a
  unfold minusOf
  simp [go_sem]
  refine CallSem.pure (sorted_ac a (by omega)) (by simp [go_sem]) ?_
  generalize sortedL a = A at hal ⊢
  have hm : A.length ≤ maxLen := by unfold maxLen; omega
  simp [go_sem]
  refine AWp.loop_vc [] (fun m s => ∃ q v : Nat, q ≤ A.length ∧ m = A.length - q ∧ s.σ 1 = ints b ∧ s.σ 5 = ints A ∧ s.σ 7 = I q ∧ s.σ 6 = .ref 10 v ∧ s.ver 10 = v ∧ s.h 10 = .arr 3 1 (((A.take q).filter fun n => !hasI b n).map I)) A.length ⟨0, 1, by simp [go_sem]⟩ ?_
  rintro m s ⟨q, v, hq, rfl, h1, h5, h7, h6, hv6, hh6⟩
  by_cases hlt : q < A.length
  · have hsu := filter_takeN (fun n => !hasI b n) A q hlt
    have hfl : ((A.take q).filter fun n => !hasI b n).length ≤ q := by
      have := List.length_filter_le (fun n => !hasI b n) (A.take q)
      rw [List.length_take] at this; omega
    generalize (A.take q).filter (fun n => !hasI b n) = X at hh6 hsu hfl
    simp [go_sem, h1, h5, h7, h6, hv6, hh6, hlt]
    refine CallSem.pure (r := B (hasI b A[q])) (has_ac b A[q]) (by simp [go_sem]) ?_
    cases hg : hasI b A[q] with
    | true =>
      rw [hg] at hsu
      simp [go_sem, h1, h5, h7, h6, hv6, hh6, hlt, wrap_succ hlt hm]
      exact ⟨A.length - (q + 1), by omega, q + 1, by omega, rfl, rfl, by rw [hsu]; simp⟩
    | false =>
      rw [hg] at hsu
      simp [go_sem, h1, h5, h7, h6, hv6, hh6, hlt, wrap_succ hlt hm]
      exact ⟨⟨by omega, by omega⟩, A.length - (q + 1), by omega, q + 1, by omega, rfl, rfl, by rw [hsu]; simp [I]⟩
  · rw [List.take_of_length_le (by omega)] at hh6
    simp [go_sem, h1, h5, h7, h6, hv6, hh6, hlt]
    refine PostR.retW [10] ?_ (.refl _)
    simp [go_sem, h6, hv6, hh6]

theorem sortedL_append (a b : List Int) : sortedL (a ++ b) = b.foldl putL (sortedL a) := by unfold sortedL; rw [List.foldl_append]
theorem foldl_take {α β : Type} (f : β → α → β) (l : List α) (b : β) (k : Nat) (h : k < l.length) : (l.take (k + 1)).foldl f b = f ((l.take k).foldl f b) l[k] := by
  rw [List.take_succ_eq_append_getElem h, List.foldl_append]; rfl
set_option maxRecDepth 8000 in
set_option maxHeartbeats 4000000 in
theorem runion_ac (a b : List Int) (ha : a.length ≤ 100000) (hb : b.length ≤ 100000) : AC Try.prog 34 [ints a, ints b] (ints (sortedL (a ++ b))) := by
  refine AC.of_body Try.func34 rfl rfl Try.ntmps34 (congrArg Array.toList Try.results34) (by simp) (pures2 (pure_ints _) (pure_ints _)) (pureR_ints _) fun w S' => AWp.of_vc [] ?_
  have hal := sortedL_lenN a
  have hm : b.length ≤ maxLen := by unfold maxLen; omega
  rw [sortedL_append]
  simp [go_sem]
  refine CallSem.pure (sorted_ac a (by omega)) (by simp [go_sem]) ?_
  generalize sortedL a = A at hal ⊢
  simp [go_sem]
  refine AWp.loop_vc [] (fun m s => ∃ q : Nat, q ≤ b.length ∧ m = b.length - q ∧ s.σ 1 = ints b ∧ s.σ 6 = I q ∧ s.σ 5 = ints ((b.take q).foldl putL A)) b.length ⟨0, by simp [go_sem]⟩ ?_
  rintro m s ⟨q, hq, rfl, h1, h6, h5⟩
  by_cases hlt : q < b.length
  · have hst := foldl_take putL b A q hlt
    have hln := foldl_putL_len (b.take q) A
    rw [List.length_take] at hln
    generalize (b.take q).foldl putL A = X at h5 hst hln
    simp [go_sem, h1, h5, h6, hlt]
    refine CallSem.pure (put_ac X b[q] (by omega)) (by simp [go_sem]) ?_
    simp [go_sem, h1, h5, h6, hlt, wrap_succ hlt hm]
    exact ⟨b.length - (q + 1), by omega, q + 1, by omega, rfl, rfl, by rw [hst]⟩
  · rw [List.take_of_length_le (by omega)] at h5
    simp [go_sem, h1, h5, h6, hlt]
    refine PostR.ret ?_
    simp [go_sem]

end Go.Proofs.Ythlcncofhnkohaa
