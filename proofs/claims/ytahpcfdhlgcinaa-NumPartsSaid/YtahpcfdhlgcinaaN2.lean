/- Contracts of chapter 01: BinarySearch, Union, Minus. No condition. -/
import Derived.Test.YtahpcfdhlgcinaaN1
namespace Go.Proofs.Ytahpcfdhlgcinaa
open Go Go.Abs
set_option linter.unusedSimpArgs false
theorem below_stepN {α : Type} {l : List α} {P : α → Prop} {k : Nat} (hk : k < l.length) (h : ∀ (j : Nat) x, j < k → l[j]? = some x → P x) (hp : P l[k]) : ∀ (j : Nat) x, j < k + 1 → l[j]? = some x → P x := by
  intro j x hj hx
  rcases Nat.lt_succ_iff_lt_or_eq.1 hj with hj | rfl
  · exact h j x hj hx
  · rw [List.getElem?_eq_getElem hk] at hx; cases hx; exact hp
theorem takeWhile_lenN {α : Type} (p : α → Bool) : ∀ (l : List α) (k : Nat), k ≤ l.length → (∀ (j : Nat) x, j < k → l[j]? = some x → p x = true) → (∀ x, l[k]? = some x → p x = false) → (l.takeWhile p).length = k
  | [], k, hk, _, _ => by simp at hk; simp [hk]
  | x :: l, 0, _, _, h2 => by simp [List.takeWhile_cons, h2 x rfl]
  | x :: l, k + 1, hk, h1, h2 => by
    rw [List.takeWhile_cons, h1 0 x (by omega) rfl]
    simp only [if_true, List.length_cons]
    rw [takeWhile_lenN p l k (by simpa using hk) (fun j y hj hy => h1 (j + 1) y (by omega) (by simpa using hy)) (fun y hy => h2 y (by simpa using hy))]
def hasI (l : List Int) (n : Int) : Bool := l.contains n
theorem hasI_iff {l : List Int} {n : Int} : hasI l n = true ↔ n ∈ l := by unfold hasI; simp
theorem wrap_u64 {n : Int} (h1 : 0 ≤ n) (h2 : n < 18446744073709551616) : IntKind.u64.wrap n = n := by
  simp [IntKind.wrap, IntKind.bits, IntKind.signed]; omega
theorem wrap_u8 {n : Int} (h1 : 0 ≤ n) (h2 : n < 256) : IntKind.u8.wrap n = n := by
  simp [IntKind.wrap, IntKind.bits, IntKind.signed]; omega
set_option maxRecDepth 8000 in
set_option maxHeartbeats 4000000 in
theorem nan1_ac (n : Int) : AC Try.prog 45 [I n] (B false) := by
  refine AC.of_body Try.func45 rfl rfl Try.ntmps45 (congrArg Array.toList Try.results45) (by simp) (pures1 (pure_I _)) (pure_B _) fun w S' => AWp.of_vc [] ?_
  simp [go_sem]
  refine PostR.ret ?_
  simp [go_sem]
set_option maxRecDepth 8000 in
set_option maxHeartbeats 4000000 in
theorem nan2_ac (n : Int) : AC Try.prog 56 [I n] (B false) := by
  refine AC.of_body Try.func56 rfl rfl Try.ntmps56 (congrArg Array.toList Try.results56) (by simp) (pures1 (pure_I _)) (pure_B _) fun w S' => AWp.of_vc [] ?_
  simp [go_sem]
  refine PostR.ret ?_
  simp [go_sem]

set_option maxRecDepth 8000 in
set_option maxHeartbeats 4000000 in
theorem less_ac (a b : Int) : AC Try.prog 44 [I a, I b] (B (decide (a < b))) := by
  refine AC.of_body Try.func44 rfl rfl Try.ntmps44 (congrArg Array.toList Try.results44) (by simp) (pures2 (pure_I _) (pure_I _)) (pure_B _) fun w S' => AWp.of_vc [] ?_
  simp [go_sem]
  refine CallSem.pure (nan2_ac a) (by simp [go_sem]) ?_
  simp [go_sem]
  refine PostR.ret ?_
  simp [go_sem]

def lowIdx (L : List Int) (n : Int) : Nat := (L.takeWhile fun x => decide (x < n)).length
def searchAV (L : List Int) (n : Int) : AV := .tup [I (lowIdx L n), B (hasI L n)]
theorem pureR_search (L : List Int) (n : Int) : PureR (searchAV L n) := by
  intro r hr
  simp only [List.mem_cons, List.not_mem_nil, or_false] at hr
  rcases hr with rfl | rfl
  · exact pure_I _
  · exact pure_B _
set_option maxRecDepth 8000 in
set_option maxHeartbeats 4000000 in
theorem search_ac (L : List Int) (n : Int) (hs : L.Pairwise (· < ·)) (hsz : L.length ≤ 1000000000) : AC Try.prog 40 [ints L, I n] (searchAV L n) := by
  refine AC.of_body Try.func40 rfl rfl Try.ntmps40 (congrArg Array.toList Try.results40) (by simp) (pures2 (pure_ints _) (pure_I _)) (pureR_search _ _) fun w S' => AWp.bound 0 rfl fun hlen => AWp.of_vc [] ?_
  rw [ints_len] at hlen
  simp [go_sem]
  refine AWp.loop_vc [] (fun m s => ∃ i j : Nat, i ≤ j ∧ j ≤ L.length ∧ m = j - i ∧ s.σ 0 = ints L ∧ s.σ 1 = I n ∧ s.σ 6 = I L.length ∧ s.σ 7 = I i ∧ s.σ 8 = I j ∧ (∀ (p : Nat) x, p < i → L[p]? = some x → x < n) ∧ (∀ (p : Nat) x, j ≤ p → L[p]? = some x → ¬ x < n)) L.length ⟨0, L.length, by simp [go_sem]; intro p x hp hx; have := (List.getElem?_eq_some_iff.1 hx).1; omega⟩ ?_
  rintro m s ⟨i, j, hij, hj, rfl, h0, h1, h6, h7, h8, hlo, hhi⟩
  by_cases hlt : i < j
  · obtain ⟨k, hk⟩ : ∃ k, k = (i + j) / 2 := ⟨_, rfl⟩
    have hkl : k < L.length := by omega
    have w1 : IntKind.i64.wrap ((i : Int) + (j : Int)) = (i : Int) + (j : Int) := wrapOf (by omega) (by omega)
    have w2 : IntKind.u64.wrap ((i : Int) + (j : Int)) = (i : Int) + (j : Int) := wrap_u64 (by omega) (by omega)
    have w3 : ((i : Int) + (j : Int)).fdiv 2 = (k : Int) := by rw [Int.fdiv_eq_ediv_of_nonneg _ (by omega), hk]; omega
    have w4 : IntKind.i64.wrap (k : Int) = (k : Int) := wrapOf (by omega) (by omega)
    have hlt' : (i : Int) < (j : Int) := by omega
    simp [go_sem, h0, h1, h6, h7, h8, hlt, hlt', w1, w2, w3, w4, hkl]
    refine CallSem.pure (less_ac L[k] n) (by simp [go_sem]) ?_
    by_cases hg : L[k] < n
    · simp [go_sem, h0, h1, h6, h7, h8, hlt, hg, wrap_succ hkl hlen]
      refine ⟨j - (k + 1), by omega, k + 1, j, by omega, by omega, rfl, rfl, rfl, fun p x hp hx => ?_, fun p x hp hx => by have := hhi p x hp hx; omega⟩
      obtain ⟨hp1, rfl⟩ := List.getElem?_eq_some_iff.1 hx
      by_cases hpk : p = k
      · subst hpk; exact hg
      · have := List.pairwise_iff_getElem.1 hs p k hp1 hkl (by omega)
        omega
    · simp [go_sem, h0, h1, h6, h7, h8, hlt, hg]
      refine ⟨k - i, by omega, i, k, by omega, by omega, rfl, rfl, rfl, hlo, fun p x hp hx => ?_⟩
      obtain ⟨hp1, rfl⟩ := List.getElem?_eq_some_iff.1 hx
      by_cases hpk : p = k
      · subst hpk; omega
      · have := List.pairwise_iff_getElem.1 hs k p hkl hp1 (by omega)
        omega
  · have hije : j = i := by omega
    subst hije
    have hlt' : ¬ (j : Int) < (j : Int) := by omega
    have hidx : lowIdx L n = j := takeWhile_lenN _ L j hj (fun p x hp hx => by simpa using hlo p x hp hx) (fun x hx => by simpa using hhi j x (Nat.le_refl _) hx)
    by_cases hjl : j < L.length
    · by_cases he : L[j] = n
      · have hh : hasI L n = true := hasI_iff.2 (he ▸ List.getElem_mem hjl)
        simp [go_sem, h0, h1, h6, h7, h8, hjl, he]
        refine PostR.ret ?_
        simp [go_sem, searchAV, hidx, hh]
      · have hh : hasI L n = false := by
          rw [← Bool.not_eq_true, hasI_iff]
          intro hmem
          obtain ⟨p, hp, hpe⟩ := List.mem_iff_getElem.1 hmem
          rcases Nat.lt_trichotomy p j with h | h | h
          · have := hlo p _ h (List.getElem?_eq_getElem hp); omega
          · subst h; exact he hpe
          · have h2 := List.pairwise_iff_getElem.1 hs j p hjl hp h
            have h3 := hhi j _ (Nat.le_refl _) (List.getElem?_eq_getElem hjl)
            omega
        simp [go_sem, h0, h1, h6, h7, h8, hjl, he]
        refine CallSem.pure (nan1_ac L[j]) (by simp [go_sem]) ?_
        simp [go_sem, h0, h1, h6, h7, h8, hjl, he]
        refine PostR.ret ?_
        simp [go_sem, searchAV, hidx, hh]
    · have hh : hasI L n = false := by
        rw [← Bool.not_eq_true, hasI_iff]
        intro hmem
        obtain ⟨p, hp, hpe⟩ := List.mem_iff_getElem.1 hmem
        have := hlo p _ (by omega) (List.getElem?_eq_getElem hp); omega
      simp [go_sem, h0, h1, h6, h7, h8, hjl]
      refine PostR.ret ?_
      simp [go_sem, searchAV, hidx, hh]

def minusOf (a b : List Int) : List Int := (sortedL a).filter fun n => !hasI b n
theorem filter_takeN {α : Type} (p : α → Bool) (l : List α) (k : Nat) (h : k < l.length) : (l.take (k + 1)).filter p = if p l[k] = true then (l.take k).filter p ++ [l[k]] else (l.take k).filter p := by
  rw [List.take_succ_eq_append_getElem h, List.filter_append]
  split
  · rename_i hp; simp [hp]
  · rename_i hp; simp [hp]
theorem sortedL_lenN (a : List Int) : (sortedL a).length ≤ a.length := by
  have := foldl_putL_len a []
  simp only [List.length_nil] at this
  unfold sortedL; omega
theorem hasI_sorted (b : List Int) (n : Int) : hasI (sortedL b) n = hasI b n := by
  apply Bool.eq_iff_iff.2
  rw [hasI_iff, hasI_iff]
  exact (sortedL_sorted b).2 n
set_option maxRecDepth 8000 in
set_option maxHeartbeats 4000000 in
theorem minus_ac (a b : List Int) (ha : a.length ≤ 100000) (hb : b.length ≤ 100000) : AC Try.prog 30 [ints a, ints b] (ints (minusOf a b)) := by
  refine AC.of_body Try.func30 rfl rfl Try.ntmps30 (congrArg Array.toList Try.results30) (by simp) (pures2 (pure_ints _) (pure_ints _)) (pureR_ints _) fun w S' => AWp.of_vc [] ?_
  have hal := sortedL_lenN a
  have hbs := (sortedL_sorted b).1
  have hhs := hasI_sorted b
  have hbl := sortedL_lenN b
  unfold minusOf
  simp [go_sem]
  refine CallSem.pure (numSorted_ac b (by omega)) (by simp [go_sem]) ?_
  rw [sortedSet_eq]
  simp [go_sem]
  refine CallSem.pure (numSorted_ac a (by omega)) (by simp [go_sem]) ?_
  rw [sortedSet_eq]
  generalize sortedL a = A at hal ⊢
  generalize sortedL b = L at hbs hhs hbl ⊢
  have hm : A.length ≤ maxLen := by unfold maxLen; omega
  simp [go_sem]
  refine AWp.ownNil 6 3 1 (by simp [go_sem]) ?_
  refine AWp.loop_vc [] (fun m s => ∃ q v : Nat, q ≤ A.length ∧ m = A.length - q ∧ s.σ 5 = ints L ∧ s.σ 14 = ints A ∧ s.σ 15 = I A.length ∧ s.σ 16 = I q ∧ s.σ 6 = .ref 6 v ∧ s.ver 6 = v ∧ s.h 6 = .arr 3 1 (((A.take q).filter fun n => !hasI b n).map I)) A.length ⟨0, 1, by simp [go_sem]⟩ ?_
  rintro m s ⟨q, v, hq, rfl, h5, h14, h15, h16, h6, hv6, hh6⟩
  by_cases hlt : q < A.length
  · have hsu := filter_takeN (fun n => !hasI b n) A q hlt
    have hfl : ((A.take q).filter fun n => !hasI b n).length ≤ q := by
      have := List.length_filter_le (fun n => !hasI b n) (A.take q)
      rw [List.length_take] at this; omega
    generalize (A.take q).filter (fun n => !hasI b n) = X at hh6 hsu hfl
    simp [go_sem, h5, h14, h15, h16, h6, hv6, hh6, hlt]
    refine CallSem.pure (search_ac L A[q] hbs (by omega)) (by simp [go_sem]) ?_
    unfold searchAV
    rw [hhs]
    cases hg : hasI b A[q] with
    | true =>
      rw [hg] at hsu
      simp [go_sem, h5, h14, h15, h16, h6, hv6, hh6, hlt, wrap_succ hlt hm]
      exact ⟨A.length - (q + 1), by omega, q + 1, by omega, rfl, rfl, by rw [hsu]; simp⟩
    | false =>
      rw [hg] at hsu
      simp [go_sem, h5, h14, h15, h16, h6, hv6, hh6, hlt, wrap_succ hlt hm]
      exact ⟨⟨by omega, by omega⟩, A.length - (q + 1), by omega, q + 1, by omega, rfl, rfl, by rw [hsu]; simp [I]⟩
  · rw [List.take_of_length_le (by omega)] at hh6
    simp [go_sem, h5, h14, h15, h16, h6, hv6, hh6, hlt]
    refine PostR.retW [6] ?_ (.refl _)
    simp [go_sem, h6, hv6, hh6]

set_option maxRecDepth 8000 in
set_option maxHeartbeats 4000000 in
theorem rminus_ac (a b : List Int) (ha : a.length ≤ 100000) : AC Try.prog 31 [ints a, ints b] (ints (minusOf a b)) := by
  refine AC.of_body Try.func31 rfl rfl Try.ntmps31 (congrArg Array.toList Try.results31) (by simp) (pures2 (pure_ints _) (pure_ints _)) (pureR_ints _) fun w S' => AWp.of_vc [10] ?_
  have hal := sortedL_lenN a
  unfold minusOf
  simp [go_sem]
  refine CallSem.pure (sorted_ac a (by omega)) (by simp [go_sem]) ?_
  generalize sortedL a = A at hal ⊢
  have hm : A.length ≤ maxLen := by unfold maxLen; omega
  simp [go_sem]
  refine AWp.loop_vc [] (fun m s => ∃ q v : Nat, q ≤ A.length ∧ m = A.length - q ∧ s.σ 1 = ints b ∧ s.σ 5 = ints A ∧ s.σ 7 = I q ∧ s.σ 6 = .ref 10 v ∧ s.ver 10 = v ∧ s.h 10 = .arr 3 1 (((A.take q).filter fun n => !hasI b n).map I)) A.length ⟨0, 1, by simp [go_sem]⟩ ?_
  rintro m s ⟨q, v, hq, rfl, h1, h5, h7, h6, hv6, hh6⟩
  by_cases hlt : q < A.length
  · have hsu := filter_takeN (fun n => !hasI b n) A q hlt
    have hfl : ((A.take q).filter fun n => !hasI b n).length ≤ q := by
      have := List.length_filter_le (fun n => !hasI b n) (A.take q)
      rw [List.length_take] at this; omega
    generalize (A.take q).filter (fun n => !hasI b n) = X at hh6 hsu hfl
    simp [go_sem, h1, h5, h7, h6, hv6, hh6, hlt]
    refine CallSem.pure (r := B (hasI b A[q])) (has_ac b A[q]) (by simp [go_sem]) ?_
    cases hg : hasI b A[q] with
    | true =>
      rw [hg] at hsu
      simp [go_sem, h1, h5, h7, h6, hv6, hh6, hlt, wrap_succ hlt hm]
      exact ⟨A.length - (q + 1), by omega, q + 1, by omega, rfl, rfl, by rw [hsu]; simp⟩
    | false =>
      rw [hg] at hsu
      simp [go_sem, h1, h5, h7, h6, hv6, hh6, hlt, wrap_succ hlt hm]
      exact ⟨⟨by omega, by omega⟩, A.length - (q + 1), by omega, q + 1, by omega, rfl, rfl, by rw [hsu]; simp [I]⟩
  · rw [List.take_of_length_le (by omega)] at hh6
    simp [go_sem, h1, h5, h7, h6, hv6, hh6, hlt]
    refine PostR.retW [10] ?_ (.refl _)
    simp [go_sem, h6, hv6, hh6]

theorem sortedL_append (a b : List Int) : sortedL (a ++ b) = b.foldl putL (sortedL a) := by unfold sortedL; rw [List.foldl_append]
theorem foldl_take {α β : Type} (f : β → α → β) (l : List α) (b : β) (k : Nat) (h : k < l.length) : (l.take (k + 1)).foldl f b = f ((l.take k).foldl f b) l[k] := by
  rw [List.take_succ_eq_append_getElem h, List.foldl_append]; rfl
set_option maxRecDepth 8000 in
set_option maxHeartbeats 4000000 in
theorem runion_ac (a b : List Int) (ha : a.length ≤ 100000) (hb : b.length ≤ 100000) : AC Try.prog 29 [ints a, ints b] (ints (sortedL (a ++ b))) := by
  refine AC.of_body Try.func29 rfl rfl Try.ntmps29 (congrArg Array.toList Try.results29) (by simp) (pures2 (pure_ints _) (pure_ints _)) (pureR_ints _) fun w S' => AWp.of_vc [] ?_
  have hal := sortedL_lenN a
  have hm : b.length ≤ maxLen := by unfold maxLen; omega
  rw [sortedL_append]
  simp [go_sem]
  refine CallSem.pure (sorted_ac a (by omega)) (by simp [go_sem]) ?_
  generalize sortedL a = A at hal ⊢
  simp [go_sem]
  refine AWp.loop_vc [] (fun m s => ∃ q : Nat, q ≤ b.length ∧ m = b.length - q ∧ s.σ 1 = ints b ∧ s.σ 6 = I q ∧ s.σ 5 = ints ((b.take q).foldl putL A)) b.length ⟨0, by simp [go_sem]⟩ ?_
  rintro m s ⟨q, hq, rfl, h1, h6, h5⟩
  by_cases hlt : q < b.length
  · have hst := foldl_take putL b A q hlt
    have hln := foldl_putL_len (b.take q) A
    rw [List.length_take] at hln
    generalize (b.take q).foldl putL A = X at h5 hst hln
    simp [go_sem, h1, h5, h6, hlt]
    refine CallSem.pure (put_ac X b[q] (by omega)) (by simp [go_sem]) ?_
    simp [go_sem, h1, h5, h6, hlt, wrap_succ hlt hm]
    exact ⟨b.length - (q + 1), by omega, q + 1, by omega, rfl, rfl, by rw [hst]⟩
  · rw [List.take_of_length_le (by omega)] at h5
    simp [go_sem, h1, h5, h6, hlt]
    refine PostR.ret ?_
    simp [go_sem]

end Go.Proofs.Ytahpcfdhlgcinaa
