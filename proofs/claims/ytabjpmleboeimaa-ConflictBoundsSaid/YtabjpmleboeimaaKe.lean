/- Several texts of the proof in one: U4, P1, N1, N2, E2, S1, S2, S3, S4, S5, S6, S7, S8, P2. No condition. -/
import Derived.Test.YtabjpmleboeimaaKd
import Derived.Test.YtabjpmleboeimaaLa
set_option linter.unusedSimpArgs false
set_option linter.unusedVariables false
-- part U4
namespace Go.Proofs.Ytabjpmleboeimaa
open Go Go.Abs Go.Shelf
set_option linter.unusedSimpArgs false
set_option maxRecDepth 4000 in
set_option maxHeartbeats 1000000 in
theorem cloneI_ac (l : List Int) (hsz : l.length ≤ 1000000000) : AC Try.prog 41 [ints l] (.fresh 3 1 (l.map I)) := by
  refine AC.of_body Try.func41 rfl rfl Try.ntmps41 (congrArg Array.toList Try.results41) (by simp) (pures1 (pure_ints _)) (pureR_fresh_ints _ _) fun w S => AWp.of_vc [5] ?_
  simp [go_sem]
  refine ⟨?_, ?_⟩
  · refine ⟨⟨by omega, by omega⟩, ?_⟩
    refine PostR.ret ?_
    simp [go_sem]
  · rintro rfl
    refine PostR.retW [] (r0 := .v (.slice none 0 0)) ?_ (.fresh _ _)
    simp [go_sem]

/-- The elements in increasing order, each once, as the library makes them. -/
def sortedSet (l : List Int) : List Int := Lib.compact (l.mergeSort fun x y => decide (x ≤ y))

set_option maxRecDepth 4000 in
set_option maxHeartbeats 1000000 in
theorem numSorted_ac (l : List Int) (hsz : l.length ≤ 1000000000) : AC Try.prog 29 [ints l] (ints (sortedSet l)) := by
  refine AC.of_body Try.func29 rfl rfl Try.ntmps29 (congrArg Array.toList Try.results29) (by simp) (pures1 (pure_ints _)) (pureR_ints _) fun w S => AWp.of_vc [] ?_
  simp [go_sem]
  refine CallSem.pure (cloneI_ac l hsz) (by simp [go_sem]) ?_
  simp [go_sem]
  refine CallSem.sortInts (ρ := Try.laysSort_ren) (id := 5) (e := 3) (l := l) Try.laysSort ⟨_, Try.func22, rfl, rfl⟩ (by simp [go_sem]) (by simp [go_sem, Function.comp_def]; try rfl) (by simp [go_sem]) (by omega) ?_
  simp [go_sem]
  refine CallSem.compactInts (ρ := Try.laysCompact_ren) (id := 5) (e := 3) (l := l.mergeSort fun x y => decide (x ≤ y)) Try.laysCompact ⟨_, Try.func23, rfl, rfl⟩ (by simp [go_sem]) (by simp [go_sem]) (by simp [go_sem]) (compact_len _) ?_
  simp [go_sem]
  refine PostR.retW [5] ?_ (.refl _)
  simp [go_sem, sortedSet]


end Go.Proofs.Ytabjpmleboeimaa

-- part P1
namespace Go.Proofs.Ytabjpmleboeimaa
open Go Go.Abs Go.Lib

theorem compact_spec (l : List Int) (hs : l.Pairwise (· ≤ ·)) : ∀ m, m ≤ l.length → (compactUpTo l.toArray m).Pairwise (· < ·) ∧ ∀ x, x ∈ compactUpTo l.toArray m ↔ x ∈ l.take m
  | 0, _ => by simp [compactUpTo]
  | m + 1, hm => by
    obtain ⟨h1, h2⟩ := compact_spec l hs m (by omega)
    have hlt : m < l.length := by omega
    have hd : l.toArray[m]! = l[m] := by simp [hlt]
    have ht : l.take (m + 1) = l.take m ++ [l[m]] := List.take_succ_eq_append_getElem hlt
    rw [compactUpTo_succ, hd]
    have hle : ∀ x, x ∈ l.take m → x ≤ l[m] := by
      have := hs.sublist (List.take_sublist (m + 1) l)
      rw [ht] at this
      exact fun x hx => (List.pairwise_append.1 this).2.2 x hx _ (by simp)
    by_cases hk : keeps l.toArray m = true
    · rw [if_pos hk]
      refine ⟨List.pairwise_append.2 ⟨h1, by simp, fun x hx y hy => ?_⟩, fun x => ?_⟩
      · simp only [List.mem_singleton] at hy
        subst hy
        have hx' := (h2 x).1 hx
        have hne : x ≠ l[m] := by
          intro he
          simp only [keeps, decide_eq_true_eq] at hk
          rcases hk with h0 | h0
          · subst h0; simp at hx'
          · have hm0 : 0 < m := by
              rcases Nat.eq_zero_or_pos m with h | h
              · subst h; simp at hx'
              · exact h
            have hp : l.toArray[m - 1]! = l[m - 1] := by simp [show m - 1 < l.length from by omega]
            rw [hd, hp] at h0
            -- x is at some place before m, so x is at most the one before m
            obtain ⟨i, hi, hxi⟩ := List.mem_iff_getElem.1 hx'
            simp only [List.length_take] at hi
            simp only [List.getElem_take] at hxi
            have h3 : l[i] ≤ l[m - 1] := by
              by_cases h : i = m - 1
              · subst h; exact Int.le_refl _
              · exact List.pairwise_iff_getElem.1 hs i (m - 1) (by omega) (by omega) (by omega)
            have h4 : l[m - 1] ≤ l[m] := List.pairwise_iff_getElem.1 hs (m - 1) m (by omega) (by omega) (by omega)
            omega
        have := hle x hx'
        omega
      · rw [ht, List.mem_append, List.mem_append, h2]
    · rw [if_neg hk]
      refine ⟨by simpa using h1, fun x => ?_⟩
      have hk' : m ≠ 0 ∧ l.toArray[m]! = l.toArray[m - 1]! := by
        simp only [keeps, decide_eq_true_eq, not_or, Decidable.not_not] at hk
        exact hk
      have hp : l.toArray[m - 1]! = l[m - 1] := by simp [show m - 1 < l.length from by omega]
      have he : l[m] = l[m - 1] := by rw [hd, hp] at hk'; exact hk'.2
      rw [List.append_nil, h2, ht, List.mem_append, List.mem_singleton]
      constructor
      · exact .inl
      · rintro (h | rfl)
        · exact h
        · rw [he]
          have hm0 := hk'.1
          exact List.mem_iff_getElem.2 ⟨m - 1, by simp; omega, by simp⟩

theorem sortedSet_sorted (l : List Int) : (sortedSet l).Pairwise (· < ·) ∧ ∀ x, x ∈ sortedSet l ↔ x ∈ l := by
  have hs : (l.mergeSort fun x y => decide (x ≤ y)).Pairwise (· ≤ ·) := by
    have := List.pairwise_mergeSort (le := fun x y : Int => decide (x ≤ y)) (fun a b c h1 h2 => by simp only [decide_eq_true_eq] at *; omega) (fun a b => by simp only [Bool.or_eq_true, decide_eq_true_eq]; omega) l
    exact this.imp fun h => by simpa using h
  obtain ⟨h1, h2⟩ := compact_spec _ hs _ (Nat.le_refl _)
  refine ⟨h1, fun x => ?_⟩
  rw [show (x ∈ sortedSet l) = (x ∈ compactUpTo (l.mergeSort fun x y => decide (x ≤ y)).toArray (l.mergeSort fun x y => decide (x ≤ y)).length) from rfl, h2, List.take_length, List.mem_mergeSort]

theorem putL_spec (l : List Int) (n : Int) (hs : l.Pairwise (· < ·)) : (putL l n).Pairwise (· < ·) ∧ ∀ x, x ∈ putL l n ↔ x ∈ l ∨ x = n := by
  unfold putL
  by_cases hn : l.contains n = true
  · rw [if_pos hn]
    have hn' : n ∈ l := by simpa using hn
    exact ⟨hs, fun x => ⟨.inl, by rintro (h | rfl); exact h; exact hn'⟩⟩
  · rw [if_neg hn]
    have hn' : n ∉ l := by simpa using hn
    have hsplit : l.takeWhile (fun x => decide (x < n)) ++ l.dropWhile (fun x => decide (x < n)) = l := List.takeWhile_append_dropWhile
    have hs' := hs
    rw [← hsplit, List.pairwise_append] at hs'
    obtain ⟨g1, g2, g3⟩ := hs'
    have hlow : ∀ x ∈ l.takeWhile (fun x => decide (x < n)), x < n := fun x hx => by
      have : ∀ (m : List Int) x, x ∈ m.takeWhile (fun x => decide (x < n)) → x < n := by
        intro m
        induction m with
        | nil => intro x hx; simp at hx
        | cons y m ih =>
          intro x hx
          rw [List.takeWhile_cons] at hx
          split at hx
          · rename_i hy
            rcases List.mem_cons.1 hx with rfl | hx
            · simpa using hy
            · exact ih x hx
          · simp at hx
      exact this l x hx
    have hhigh : ∀ x ∈ l.dropWhile (fun x => decide (x < n)), n < x := fun x hx => by
      have : ∀ m : List Int, m.Pairwise (· < ·) → n ∉ m → ∀ x ∈ m.dropWhile (fun x => decide (x < n)), n < x := by
        intro m
        induction m with
        | nil => intro _ _ x hx; simp at hx
        | cons y m ih =>
          intro hp hnm x hx
          rw [List.dropWhile_cons] at hx
          rw [List.pairwise_cons] at hp
          simp only [List.mem_cons, not_or] at hnm
          split at hx
          · exact ih hp.2 hnm.2 x hx
          · rename_i hy
            simp only [decide_eq_true_eq] at hy
            rcases List.mem_cons.1 hx with rfl | hx
            · omega
            · have := hp.1 x hx; omega
      exact this l hs hn' x hx
    refine ⟨List.pairwise_append.2 ⟨g1, List.pairwise_cons.2 ⟨hhigh, g2⟩, fun x hx y hy => ?_⟩, fun x => ?_⟩
    · rcases List.mem_cons.1 hy with rfl | hy
      · exact hlow x hx
      · exact g3 x hx y hy
    · conv => rhs; rw [← hsplit]
      simp only [List.mem_append, List.mem_cons]
      constructor
      · rintro (h | h | h)
        · exact .inl (.inl h)
        · exact .inr h
        · exact .inl (.inr h)
      · rintro ((h | h) | h)
        · exact .inl h
        · exact .inr (.inr h)
        · exact .inr (.inl h)

theorem foldl_putL_spec (l : List Int) : ∀ a : List Int, a.Pairwise (· < ·) → (l.foldl putL a).Pairwise (· < ·) ∧ ∀ x, x ∈ l.foldl putL a ↔ x ∈ a ∨ x ∈ l := by
  induction l with
  | nil => intro a ha; simp [ha]
  | cons y l ih =>
    intro a ha
    obtain ⟨h1, h2⟩ := putL_spec a y ha
    obtain ⟨h3, h4⟩ := ih _ h1
    refine ⟨h3, fun x => ?_⟩
    rw [List.foldl_cons, h4, h2, List.mem_cons]
    constructor
    · rintro ((h | h) | h)
      · exact .inl h
      · exact .inr (.inl h)
      · exact .inr (.inr h)
    · rintro (h | h | h)
      · exact .inl (.inl h)
      · exact .inl (.inr h)
      · exact .inr h
theorem sortedL_sorted (l : List Int) : (sortedL l).Pairwise (· < ·) ∧ ∀ x, x ∈ sortedL l ↔ x ∈ l := by
  obtain ⟨h1, h2⟩ := foldl_putL_spec l [] (by simp)
  exact ⟨h1, fun x => by rw [show sortedL l = l.foldl putL [] from rfl, h2]; simp⟩

/-- Two increasing lists with the same members are one. -/
theorem strict_ext : ∀ {a b : List Int}, a.Pairwise (· < ·) → b.Pairwise (· < ·) → (∀ x, x ∈ a ↔ x ∈ b) → a = b
  | [], [], _, _, _ => rfl
  | [], y :: b, _, _, h => by have := (h y).2 (by simp); simp at this
  | x :: a, [], _, _, h => by have := (h x).1 (by simp); simp at this
  | x :: a, y :: b, ha, hb, h => by
    rw [List.pairwise_cons] at ha hb
    have hxy : x = y := by
      rcases List.mem_cons.1 ((h x).1 (by simp)) with h1 | h1
      · exact h1
      · rcases List.mem_cons.1 ((h y).2 (by simp)) with h2 | h2
        · exact h2.symm
        · have := hb.1 x h1; have := ha.1 y h2; omega
    subst hxy
    congr 1
    refine strict_ext ha.2 hb.2 fun z => ⟨fun hz => ?_, fun hz => ?_⟩
    · rcases List.mem_cons.1 ((h z).1 (by simp [hz])) with h1 | h1
      · have := ha.1 z hz; omega
      · exact h1
    · rcases List.mem_cons.1 ((h z).2 (by simp [hz])) with h1 | h1
      · have := hb.1 z hz; omega
      · exact h1
theorem sortedSet_eq (l : List Int) : sortedSet l = sortedL l :=
  strict_ext (sortedSet_sorted l).1 (sortedL_sorted l).1 fun x => by rw [(sortedSet_sorted l).2, (sortedL_sorted l).2]
end Go.Proofs.Ytabjpmleboeimaa

-- part N1
namespace Go.Proofs.Ytabjpmleboeimaa
open Go Go.Abs
set_option linter.unusedSimpArgs false
theorem wrapOf {n : Int} (h1 : -9223372036854775808 ≤ n) (h2 : n ≤ 9223372036854775807) : IntKind.i64.wrap n = n := wrap_i64 h1 h2
theorem wrap_natN {k : Nat} (hm : k ≤ maxLen) : IntKind.i64.wrap (k : Int) = (k : Int) := wrap_i64 (by omega) (by unfold maxLen at hm; omega)
def clipOf (n lo hi : Int) : Int := if hi < lo then lo else if n < lo then lo else if hi < n then hi else n


def boundOf (n : Int) : Int := clipOf n (-1000000000000) 1000000000000
theorem bound_in (n : Int) : -1000000000000 ≤ boundOf n ∧ boundOf n ≤ 1000000000000 := by
  unfold boundOf clipOf
  split
  · omega
  · split
    · omega
    · split <;> omega
def addOf (a b : Int) : Int := boundOf (boundOf a + boundOf b)
theorem add_wrap (a b : Int) : IntKind.i64.wrap (boundOf a + boundOf b) = boundOf a + boundOf b := by
  have h1 := bound_in a
  have h2 := bound_in b
  exact wrapOf (by omega) (by omega)



theorem add_comm' (a b : Int) : addOf a b = addOf b a := by unfold addOf; rw [Int.add_comm]
/-- The greatest of a number and a list. -/
def maxF (m : Int) (l : List Int) : Int := l.foldl (fun a b => if a < b then b else a) m
def maxOf : List Int → Option Int
  | [] => none
  | x :: l => some (maxF x l)
theorem maxF_snoc (m : Int) (l : List Int) (x : Int) : maxF m (l ++ [x]) = if maxF m l < x then x else maxF m l := by
  unfold maxF
  rw [List.foldl_append]; rfl
theorem maxF_mem : ∀ (l : List Int) (m : Int), (maxF m l = m ∨ maxF m l ∈ l) ∧ m ≤ maxF m l ∧ ∀ x ∈ l, x ≤ maxF m l
  | [], m => ⟨.inl rfl, Int.le_refl _, fun x hx => by cases hx⟩
  | y :: l, m => by
    obtain ⟨h1, h2, h3⟩ := maxF_mem l (if m < y then y else m)
    have hE : maxF m (y :: l) = maxF (if m < y then y else m) l := rfl
    rw [hE]
    refine ⟨?_, ?_, fun x hx => ?_⟩
    · rcases h1 with h1 | h1
      · rw [h1]
        split
        · exact .inr (List.mem_cons_self ..)
        · exact .inl rfl
      · exact .inr (List.mem_cons_of_mem _ h1)
    · refine Int.le_trans ?_ h2
      split <;> omega
    · rcases List.mem_cons.1 hx with rfl | hx
      · refine Int.le_trans ?_ h2
        split <;> omega
      · exact h3 x hx
def optN (o : Option Int) : AV := .tup [I (o.getD 0), B o.isSome]
theorem pureR_optN (o : Option Int) : PureR (optN o) := by
  intro r hr
  simp only [List.mem_cons, List.not_mem_nil, or_false] at hr
  rcases hr with rfl | rfl
  · exact pure_I _
  · exact pure_B _
attribute [go_sem] optN


end Go.Proofs.Ytabjpmleboeimaa

-- part N2
namespace Go.Proofs.Ytabjpmleboeimaa
open Go Go.Abs
set_option linter.unusedSimpArgs false
theorem below_stepN {α : Type} {l : List α} {P : α → Prop} {k : Nat} (hk : k < l.length) (h : ∀ (j : Nat) x, j < k → l[j]? = some x → P x) (hp : P l[k]) : ∀ (j : Nat) x, j < k + 1 → l[j]? = some x → P x := by
  intro j x hj hx
  rcases Nat.lt_succ_iff_lt_or_eq.1 hj with hj | rfl
  · exact h j x hj hx
  · rw [List.getElem?_eq_getElem hk] at hx; cases hx; exact hp
theorem takeWhile_lenN {α : Type} (p : α → Bool) : ∀ (l : List α) (k : Nat), k ≤ l.length → (∀ (j : Nat) x, j < k → l[j]? = some x → p x = true) → (∀ x, l[k]? = some x → p x = false) → (l.takeWhile p).length = k
  | [], k, hk, _, _ => by simp at hk; simp [hk]
  | x :: l, 0, _, _, h2 => by simp [List.takeWhile_cons, h2 x rfl]
  | x :: l, k + 1, hk, h1, h2 => by
    rw [List.takeWhile_cons, h1 0 x (by omega) rfl]
    simp only [if_true, List.length_cons]
    rw [takeWhile_lenN p l k (by simpa using hk) (fun j y hj hy => h1 (j + 1) y (by omega) (by simpa using hy)) (fun y hy => h2 y (by simpa using hy))]
def hasI (l : List Int) (n : Int) : Bool := l.contains n
theorem hasI_iff {l : List Int} {n : Int} : hasI l n = true ↔ n ∈ l := by unfold hasI; simp
theorem wrap_u64 {n : Int} (h1 : 0 ≤ n) (h2 : n < 18446744073709551616) : IntKind.u64.wrap n = n := by
  simp [IntKind.wrap, IntKind.bits, IntKind.signed]; omega
theorem wrap_u8 {n : Int} (h1 : 0 ≤ n) (h2 : n < 256) : IntKind.u8.wrap n = n := by
  simp [IntKind.wrap, IntKind.bits, IntKind.signed]; omega
def minusOf (a b : List Int) : List Int := (sortedL a).filter fun n => !hasI b n
theorem filter_takeN {α : Type} (p : α → Bool) (l : List α) (k : Nat) (h : k < l.length) : (l.take (k + 1)).filter p = if p l[k] = true then (l.take k).filter p ++ [l[k]] else (l.take k).filter p := by
  rw [List.take_succ_eq_append_getElem h, List.filter_append]
  split
  · rename_i hp; simp [hp]
  · rename_i hp; simp [hp]
theorem sortedL_lenN (a : List Int) : (sortedL a).length ≤ a.length := by
  have := foldl_putL_len a []
  simp only [List.length_nil] at this
  unfold sortedL; omega
theorem hasI_sorted (b : List Int) (n : Int) : hasI (sortedL b) n = hasI b n := by
  apply Bool.eq_iff_iff.2
  rw [hasI_iff, hasI_iff]
  exact (sortedL_sorted b).2 n

set_option maxRecDepth 8000 in
set_option maxHeartbeats 4000000 in
theorem rminus_ac (a b : List Int) (ha : a.length ≤ 100000) : AC Try.prog 15 [ints a, ints b] (ints (minusOf a b)) := by
  refine AC.of_body Try.func15 rfl rfl Try.ntmps15 (congrArg Array.toList Try.results15) (by simp) (pures2 (pure_ints _) (pure_ints _)) (pureR_ints _) fun w S' => AWp.of_vc [10] ?_
  have hal := sortedL_lenN a
  unfold minusOf
  simp [go_sem]
  refine CallSem.pure (sorted_ac a (by omega)) (by simp [go_sem]) ?_
  generalize sortedL a = A at hal ⊢
  have hm : A.length ≤ maxLen := by unfold maxLen; omega
  simp [go_sem]
  refine AWp.loop_vc [] (fun m s => ∃ q v : Nat, q ≤ A.length ∧ m = A.length - q ∧ s.σ 1 = ints b ∧ s.σ 5 = ints A ∧ s.σ 7 = I q ∧ s.σ 6 = .ref 10 v ∧ s.ver 10 = v ∧ s.h 10 = .arr 3 1 (((A.take q).filter fun n => !hasI b n).map I)) A.length ⟨0, 1, by simp [go_sem]⟩ ?_
  rintro m s ⟨q, v, hq, rfl, h1, h5, h7, h6, hv6, hh6⟩
  by_cases hlt : q < A.length
  · have hsu := filter_takeN (fun n => !hasI b n) A q hlt
    have hfl : ((A.take q).filter fun n => !hasI b n).length ≤ q := by
      have := List.length_filter_le (fun n => !hasI b n) (A.take q)
      rw [List.length_take] at this; omega
    generalize (A.take q).filter (fun n => !hasI b n) = X at hh6 hsu hfl
    simp [go_sem, h1, h5, h7, h6, hv6, hh6, hlt]
    refine CallSem.pure (r := B (hasI b A[q])) (has_ac b A[q]) (by simp [go_sem]) ?_
    cases hg : hasI b A[q] with
    | true =>
      rw [hg] at hsu
      simp [go_sem, h1, h5, h7, h6, hv6, hh6, hlt, wrap_succ hlt hm]
      exact ⟨A.length - (q + 1), by omega, q + 1, by omega, rfl, rfl, by rw [hsu]; simp⟩
    | false =>
      rw [hg] at hsu
      simp [go_sem, h1, h5, h7, h6, hv6, hh6, hlt, wrap_succ hlt hm]
      exact ⟨⟨by omega, by omega⟩, A.length - (q + 1), by omega, q + 1, by omega, rfl, rfl, by rw [hsu]; simp [I]⟩
  · rw [List.take_of_length_le (by omega)] at hh6
    simp [go_sem, h1, h5, h7, h6, hv6, hh6, hlt]
    refine PostR.retW [10] ?_ (.refl _)
    simp [go_sem, h6, hv6, hh6]

theorem sortedL_append (a b : List Int) : sortedL (a ++ b) = b.foldl putL (sortedL a) := by unfold sortedL; rw [List.foldl_append]
theorem foldl_take {α β : Type} (f : β → α → β) (l : List α) (b : β) (k : Nat) (h : k < l.length) : (l.take (k + 1)).foldl f b = f ((l.take k).foldl f b) l[k] := by
  rw [List.take_succ_eq_append_getElem h, List.foldl_append]; rfl
set_option maxRecDepth 8000 in
set_option maxHeartbeats 4000000 in
theorem runion_ac (a b : List Int) (ha : a.length ≤ 100000) (hb : b.length ≤ 100000) : AC Try.prog 16 [ints a, ints b] (ints (sortedL (a ++ b))) := by
  refine AC.of_body Try.func16 rfl rfl Try.ntmps16 (congrArg Array.toList Try.results16) (by simp) (pures2 (pure_ints _) (pure_ints _)) (pureR_ints _) fun w S' => AWp.of_vc [] ?_
  have hal := sortedL_lenN a
  have hm : b.length ≤ maxLen := by unfold maxLen; omega
  rw [sortedL_append]
  simp [go_sem]
  refine CallSem.pure (sorted_ac a (by omega)) (by simp [go_sem]) ?_
  generalize sortedL a = A at hal ⊢
  simp [go_sem]
  refine AWp.loop_vc [] (fun m s => ∃ q : Nat, q ≤ b.length ∧ m = b.length - q ∧ s.σ 1 = ints b ∧ s.σ 6 = I q ∧ s.σ 5 = ints ((b.take q).foldl putL A)) b.length ⟨0, by simp [go_sem]⟩ ?_
  rintro m s ⟨q, hq, rfl, h1, h6, h5⟩
  by_cases hlt : q < b.length
  · have hst := foldl_take putL b A q hlt
    have hln := foldl_putL_len (b.take q) A
    rw [List.length_take] at hln
    generalize (b.take q).foldl putL A = X at h5 hst hln
    simp [go_sem, h1, h5, h6, hlt]
    refine CallSem.pure (put_ac X b[q] (by omega)) (by simp [go_sem]) ?_
    simp [go_sem, h1, h5, h6, hlt, wrap_succ hlt hm]
    exact ⟨b.length - (q + 1), by omega, q + 1, by omega, rfl, rfl, by rw [hst]⟩
  · rw [List.take_of_length_le (by omega)] at h5
    simp [go_sem, h1, h5, h6, hlt]
    refine PostR.ret ?_
    simp [go_sem]

end Go.Proofs.Ytabjpmleboeimaa

-- part E2
namespace Go.Proofs.Ytabjpmleboeimaa
open Go Go.Abs
set_option linter.unusedSimpArgs false
def lvs (x : Levels) : AV := .agg (lvsc x)
def ct (x : Content) : AV := .agg (ctc x)
theorem pure_lvsc (x : Levels) : ∀ c ∈ lvsc x, Pure c := by
  intro c hc
  simp only [lvsc, List.mem_cons, List.not_mem_nil, or_false] at hc
  rcases hc with rfl | rfl | rfl | rfl | rfl | rfl | rfl | rfl | rfl <;> first | exact pure_v _ | exact pure_lst_agg pure_lvc | exact pure_lst_agg pure_klc
theorem pure_lvs (x : Levels) : Pure (lvs x) := pure_agg (pure_lvsc x)
theorem pure_ctc (x : Content) : ∀ c ∈ ctc x, Pure c := by
  intro c hc
  simp only [ctc, List.mem_cons, List.not_mem_nil, or_false] at hc
  rcases hc with rfl | rfl | rfl | rfl | rfl | rfl | rfl | rfl | rfl | rfl | rfl | rfl | rfl | rfl | rfl | rfl <;> first | exact pure_v _ | exact pure_strs _ | exact pure_lst_agg pure_lvc | exact pure_lst_agg pure_klc
theorem pure_ct (x : Content) : Pure (ct x) := pure_agg (pure_ctc x)
theorem evc_ct (x : Evt) : ((evc x).drop 10).take 16 = ctc x.content := rfl
attribute [go_sem] evc_ct lvs ct lvsc ctc lvc klc
theorem strs_len' (l : List Bytes) : (l.map S).length = l.length := by simp
theorem AWp.boundCell {G : Ctx} {st : St} {c : Code} {Q : Exit → St → Prop} (d i : Nat) {cs : List AV} {j sz : Nat} {xs : List AV} (hd : st.σ d = .eptr cs j) (hc : cs[i]? = some (.lst sz xs)) (h : xs.length ≤ maxLen → AWp G c Q st) : AWp G c Q st := fun E a hr => by
  have := hr.slots d
  rw [hd] at this
  generalize a.tmps.getD d undef = x at this
  cases this with
  | eptr _ _ b off u hS h1 h2 => exact h (h2 i _ hc).lst_len E a hr
theorem AWp.boundAgg {G : Ctx} {st : St} {c : Code} {Q : Exit → St → Prop} (d i : Nat) {cs : List AV} {sz : Nat} {xs : List AV} (hd : st.σ d = .agg cs) (hc : cs[i]? = some (.lst sz xs)) (h : xs.length ≤ maxLen → AWp G c Q st) : AWp G c Q st := fun E a hr => by
  have := hr.slots d
  rw [hd] at this
  generalize a.tmps.getD d undef = x at this
  cases this with
  | agg _ us hl h1 => exact h (h1 i _ hc).lst_len E a hr
end Go.Proofs.Ytabjpmleboeimaa

-- part S1
namespace Go.Proofs.Ytabjpmleboeimaa
open Go Go.Abs
set_option linter.unusedSimpArgs false

theorem pureR_tup2 {a b : AV} (h : Pure a) (k : Pure b) (ha : PureR1 a) (hb : PureR1 b) : PureR (.tup [a, b]) := by
  intro r hr
  simp only [List.mem_cons, List.not_mem_nil, or_false] at hr
  rcases hr with rfl | rfl
  · exact ha
  · exact hb
theorem pureR_IB (n : Int) (b : Bool) : PureR (.tup [I n, B b]) := pureR_tup2 (pure_I _) (pure_B _) (pure_I _) (pure_B _)

set_option maxRecDepth 8000 in
set_option maxHeartbeats 4000000 in
theorem prec_ac (a b : EntD) : AC Try.prog 71 [ent a, ent b] (B (prec a b)) := by
  refine AC.of_body Try.func71 rfl rfl Try.ntmps71 (congrArg Array.toList Try.results71) (by simp) (pures2 (pure_ent _) (pure_ent _)) (pure_B _) fun w S' => AWp.of_vc [] ?_
  by_cases h1 : a.kind < b.kind
  · simp [go_sem, h1]
    refine PostR.ret ?_
    simp [go_sem, prec, h1]
  · by_cases h2 : a.kind = b.kind
    · simp [go_sem, h1, h2]
      refine PostR.ret ?_
      simp [go_sem, prec, h1, h2]
    · simp [go_sem, h1, h2]
      refine PostR.ret ?_
      simp [go_sem, prec, h1, h2]

set_option maxRecDepth 8000 in
set_option maxHeartbeats 4000000 in
theorem ahead_ac (k m : Int) (a b : Bytes) : AC Try.prog 33 [I k, S a, I m, S b] (B (prec ⟨k, a, 0⟩ ⟨m, b, 0⟩)) := by
  refine AC.of_body Try.func33 rfl rfl Try.ntmps33 (congrArg Array.toList Try.results33) (by simp) (pures4 (pure_I _) (pure_S _) (pure_I _) (pure_S _)) (pure_B _) fun w S' => AWp.of_vc [] ?_
  by_cases h1 : k < m
  · simp [go_sem, h1]
    refine PostR.ret ?_
    simp [go_sem, prec, h1]
  · by_cases h2 : k = m
    · simp [go_sem, h1, h2]
      refine PostR.ret ?_
      simp [go_sem, prec, h1, h2]
    · simp [go_sem, h1, h2]
      refine PostR.ret ?_
      simp [go_sem, prec, h1, h2]

def isSt (k : Int) : Bool := decide (1 ≤ k) && decide (k ≤ 10)

set_option maxRecDepth 8000 in
set_option maxHeartbeats 4000000 in
theorem kind_ac (k : Int) : AC Try.prog 34 [I k] (B (isSt k)) := by
  refine AC.of_body Try.func34 rfl rfl Try.ntmps34 (congrArg Array.toList Try.results34) (by simp) (pures1 (pure_I _)) (pure_B _) fun w S' => AWp.of_vc [] ?_
  by_cases h1 : 1 ≤ k
  · simp [go_sem, h1]
    refine PostR.ret ?_
    simp [go_sem, isSt, h1]
  · simp [go_sem, h1]
    refine PostR.ret ?_
    simp [go_sem, isSt, h1]

theorem pure_box (x : EntD) : Pure (.eptr (enc x) 0) := pure_eptr (pure_enc x)
set_option maxRecDepth 8000 in
set_option maxHeartbeats 4000000 in
theorem find1_ac (e x : EntD) : AC Try.prog 70 [ent e, .eptr (enc x) 0] (B (prec e x)) := by
  refine AC.of_body Try.func70 rfl rfl Try.ntmps70 (congrArg Array.toList Try.results70) (by simp) (pures2 (pure_ent _) (pure_box _)) (pure_B _) fun w S' => AWp.of_vc [] ?_
  simp [go_sem]
  refine CallSem.pure (prec_ac e x) (by simp [go_sem]) ?_
  simp [go_sem]
  refine PostR.ret ?_
  simp [go_sem]

set_option maxRecDepth 8000 in
set_option maxHeartbeats 4000000 in
theorem find2_ac (e x : EntD) : AC Try.prog 72 [ent e, .eptr (enc x) 0] (B (!prec x e)) := by
  refine AC.of_body Try.func72 rfl rfl Try.ntmps72 (congrArg Array.toList Try.results72) (by simp) (pures2 (pure_ent _) (pure_box _)) (pure_B _) fun w S' => AWp.of_vc [] ?_
  simp [go_sem]
  refine CallSem.pure (prec_ac x e) (by simp [go_sem]) ?_
  simp [go_sem]
  refine PostR.ret ?_
  simp [go_sem]

/-- The place of an entry, and whether it is there. -/
def fidx (s : List EntD) (x : EntD) : Nat := (s.takeWhile fun e => prec e x).length
def fok (s : List EntD) (x : EntD) : Bool := (s[fidx s x]?).elim false fun e => !prec x e
theorem takeWhile_len {α : Type} (p : α → Bool) : ∀ (l : List α) (k : Nat), k ≤ l.length → (∀ (j : Nat) x, j < k → l[j]? = some x → p x = true) → (∀ x, l[k]? = some x → p x = false) → (l.takeWhile p).length = k
  | [], k, hk, _, _ => by simp at hk; simp [hk]
  | x :: l, 0, _, _, h2 => by simp [List.takeWhile_cons, h2 x rfl]
  | x :: l, k + 1, hk, h1, h2 => by
    have hx := h1 0 x (by omega) rfl
    simp only [List.takeWhile_cons, hx, if_true, List.length_cons]
    rw [takeWhile_len p l k (by simpa using hk) (fun j y hj hy => h1 (j + 1) y (by omega) (by simpa using hy)) (fun y hy => h2 y (by simpa using hy))]
theorem fidx_le (s : List EntD) (x : EntD) : fidx s x ≤ s.length := by
  unfold fidx
  have h := congrArg List.length (List.takeWhile_append_dropWhile (p := fun e : EntD => prec e x) (l := s))
  simp only [List.length_append] at h
  omega
theorem fok_lt {s : List EntD} {x : EntD} (h : fok s x = true) : fidx s x < s.length := by
  unfold fok at h
  cases he : s[fidx s x]? with
  | none => rw [he] at h; cases h
  | some e => exact (List.getElem?_eq_some_iff.1 he).1
def fnAV (f : FuncId) (x : EntD) : AV := .fn (.func f) [] [.eptr (enc x) 0]
theorem pure_fnAV (f : FuncId) (x : EntD) : Pure (fnAV f x) := pure_fn (fun c h => by cases h) fun c h => by simp only [List.mem_singleton] at h; subst h; exact pure_box x
attribute [go_sem] fnAV
set_option maxRecDepth 8000 in
set_option maxHeartbeats 4000000 in
theorem placeG_ac (s : List EntD) (x : EntD) : AC Try.prog 69 [ents s, fnAV 70 x, fnAV 72 x] (.tup [I (fidx s x), B (fok s x)]) := by
  refine AC.of_body Try.func69 rfl rfl Try.ntmps69 (congrArg Array.toList Try.results69) (by simp) (pures3 (pure_ents _) (pure_fnAV _ _) (pure_fnAV _ _)) (pureR_IB _ _) fun w S' => AWp.bound 0 rfl fun hlen => AWp.of_vc [] ?_
  rw [ents_len] at hlen
  simp [go_sem]
  refine AWp.loop_vc [] (fun m s' => ∃ k : Nat, k ≤ s.length ∧ m = s.length - k ∧ s'.σ 0 = ents s ∧ s'.σ 1 = fnAV 70 x ∧ s'.σ 2 = fnAV 72 x ∧ s'.σ 8 = I k ∧ ∀ (j : Nat) e, j < k → s[j]? = some e → prec e x = true) s.length ⟨0, by simp [go_sem]⟩ ?_
  rintro m s' ⟨k, hk, rfl, h0, h1, h2, h8, hno⟩
  have fin : (∀ e, s[k]? = some e → prec e x = false) → fidx s x = k := fun h => takeWhile_len _ s k hk hno h
  by_cases hlt : k < s.length
  · simp [go_sem, h0, h1, h2, h8, hlt]
    refine CallSem.pure (find1_ac s[k] x) (by simp [go_sem]) ?_
    cases hp : prec s[k] x with
    | true =>
      simp [go_sem, h0, h1, h2, h8, hlt]
      refine ⟨s.length - (k + 1), by omega, k + 1, by omega, rfl, by rw [wrap_succ hlt hlen]; rfl, ?_⟩
      intro j e hj he
      rcases Nat.lt_succ_iff_lt_or_eq.1 hj with hj | rfl
      · exact hno j e hj he
      · rw [List.getElem?_eq_getElem hlt] at he; cases he; exact hp
    | false =>
      have hf : fidx s x = k := fin fun e he => by rw [List.getElem?_eq_getElem hlt] at he; cases he; exact hp
      simp [go_sem, h0, h1, h2, h8, hlt]
      refine CallSem.pure (find2_ac s[k] x) (by simp [go_sem]) ?_
      simp [go_sem, h0, h1, h2, h8, hlt]
      refine PostR.ret ?_
      simp [go_sem, hf, fok, hlt]
  · have hf : fidx s x = k := fin fun e he => by rw [List.getElem?_eq_none (by omega)] at he; cases he
    have hk' : k = s.length := by omega
    simp [go_sem, h0, h1, h2, h8, hlt]
    refine PostR.ret ?_
    simp [go_sem, hf, fok, hk']

set_option maxRecDepth 8000 in
set_option maxHeartbeats 4000000 in
theorem find_ac (s : List EntD) (k : Int) (key : Bytes) : AC Try.prog 60 [ents s, I k, S key] (.tup [I (fidx s ⟨k, key, 0⟩), B (fok s ⟨k, key, 0⟩)]) := by
  refine AC.of_body Try.func60 rfl rfl Try.ntmps60 (congrArg Array.toList Try.results60) (by simp) (pures3 (pure_ents _) (pure_I _) (pure_S _)) (pureR_IB _ _) fun w S' => AWp.of_vc [] ?_
  simp [go_sem]
  refine CallSem.freeze 8 ?_
  simp [go_sem]
  refine CallSem.pure (placeG_ac s ⟨k, key, 0⟩) (by simp [go_sem]) ?_
  simp [go_sem]
  refine PostR.ret ?_
  simp [go_sem]

def getOf (s : List EntD) (k : Int) (key : Bytes) : Option Int := if fok s ⟨k, key, 0⟩ = true then (s[fidx s ⟨k, key, 0⟩]?).map (·.id) else none
def optAV (o : Option Int) : AV := .tup [I (o.getD 0), B o.isSome]
theorem pureR_opt (o : Option Int) : PureR (optAV o) := pureR_IB _ _
attribute [go_sem] optAV
set_option maxRecDepth 8000 in
set_option maxHeartbeats 4000000 in
theorem get_ac (s : List EntD) (k : Int) (key : Bytes) : AC Try.prog 40 [ents s, I k, S key] (optAV (getOf s k key)) := by
  refine AC.of_body Try.func40 rfl rfl Try.ntmps40 (congrArg Array.toList Try.results40) (by simp) (pures3 (pure_ents _) (pure_I _) (pure_S _)) (pureR_opt _) fun w S' => AWp.of_vc [] ?_
  simp [go_sem]
  refine CallSem.pure (find_ac s k key) (by simp [go_sem]) ?_
  cases hf : fok s ⟨k, key, 0⟩ with
  | true =>
    have hlt := fok_lt hf
    simp [go_sem, hlt]
    refine PostR.ret ?_
    simp [go_sem, getOf, hf, hlt]
  | false =>
    simp [go_sem]
    refine PostR.ret ?_
    simp [go_sem, getOf, hf]

def isKey (k : Int) (key : Bytes) (e : EntD) : Bool := e.kind == k && e.key == key
theorem isKey_iff {k : Int} {key : Bytes} {e : EntD} : isKey k key e = true ↔ e.kind = k ∧ e.key = key := by simp [isKey]
def rgetOf (s : List EntD) (k : Int) (key : Bytes) : Option Int := (s.find? (isKey k key)).map (·.id)
set_option maxRecDepth 8000 in
set_option maxHeartbeats 4000000 in
theorem rget_ac (s : List EntD) (k : Int) (key : Bytes) : AC Try.prog 56 [ents s, I k, S key] (optAV (rgetOf s k key)) := by
  refine AC.of_body Try.func56 rfl rfl Try.ntmps56 (congrArg Array.toList Try.results56) (by simp) (pures3 (pure_ents _) (pure_I _) (pure_S _)) (pureR_opt _) fun w S' => AWp.bound 0 rfl fun hlen => AWp.of_vc [] ?_
  rw [ents_len] at hlen
  simp [go_sem]
  refine AWp.loop_vc [] (fun m s' => ∃ q : Nat, q ≤ s.length ∧ m = s.length - q ∧ s'.σ 0 = ents s ∧ s'.σ 1 = I k ∧ s'.σ 2 = S key ∧ s'.σ 8 = I q ∧ ∀ (j : Nat) e, j < q → s[j]? = some e → isKey k key e = false) s.length ⟨0, by simp [go_sem]⟩ ?_
  rintro m s' ⟨q, hq, rfl, h0, h1, h2, h8, hno⟩
  by_cases hlt : q < s.length
  · have hmiss : ¬ (s[q].kind = k ∧ s[q].key = key) → ∀ (j : Nat) e, j < q + 1 → s[j]? = some e → isKey k key e = false := by
      intro hn j e hj he
      rcases Nat.lt_succ_iff_lt_or_eq.1 hj with hj | rfl
      · exact hno j e hj he
      · rw [List.getElem?_eq_getElem hlt] at he; cases he
        cases hc : isKey k key s[j] with
        | false => rfl
        | true => exact (hn (isKey_iff.1 hc)).elim
    by_cases hp : s[q].kind = k
    · by_cases hp2 : s[q].key = key
      · have hfound : s.find? (isKey k key) = some s[q] := by
          rw [List.find?_eq_some_iff_getElem]
          exact ⟨isKey_iff.2 ⟨hp, hp2⟩, q, hlt, rfl, fun j hj => by rw [hno j s[j] hj (List.getElem?_eq_getElem (by omega))]; rfl⟩
        simp [go_sem, h0, h1, h2, h8, hlt, hp, hp2]
        refine PostR.ret ?_
        simp [go_sem, rgetOf, hfound]
      · simp [go_sem, h0, h1, h2, h8, hlt, hp, hp2]
        exact ⟨s.length - (q + 1), by omega, q + 1, by omega, rfl, by rw [wrap_succ hlt hlen]; rfl, hmiss fun h => hp2 h.2⟩
    · simp [go_sem, h0, h1, h2, h8, hlt, hp]
      exact ⟨s.length - (q + 1), by omega, q + 1, by omega, rfl, by rw [wrap_succ hlt hlen]; rfl, hmiss fun h => hp h.1⟩
  · have hnone : s.find? (isKey k key) = none := by
      rw [List.find?_eq_none]
      intro e he
      obtain ⟨j, hj, rfl⟩ := List.mem_iff_getElem.1 he
      have := hno j s[j] (by omega) (List.getElem?_eq_getElem hj)
      simp [this]
    simp [go_sem, h0, h1, h2, h8, hlt]
    refine PostR.ret ?_
    simp [go_sem, rgetOf, hnone]

end Go.Proofs.Ytabjpmleboeimaa

-- part S2
namespace Go.Proofs.Ytabjpmleboeimaa
open Go Go.Abs
set_option linter.unusedSimpArgs false

/-- The same memory below 20000, but for one number. -/
def Agree (R : Nat) (s1 s2 : St) : Prop := ∀ id, id < 20000 → id ≠ R → s2.ver id = s1.ver id ∧ s2.h id = s1.h id
/-- What a round must come to. -/
def EachPost (R V : Nat) (r : Loop) (st : St) (Inv : St → Prop) (Q : Exit → St → Prop) : Exit → St → Prop
  | .normal, s => (s.ver R = V ∧ s.h R = recB r .busy none) ∧ Inv (st.mem s)
  | .ret, s => (s.ver R = V ∧ s.h R = recB r .busy none) ∧ Q .ret (st.mem (s.setH R .none))
  | .exit id, s => (s.ver R = V ∧ s.h R = recB r .busy none) ∧ Q (.exit id) (st.mem (s.setH R .none))
  | _, _ => False
theorem w_ep_normal (R V : Nat) (r : Loop) (st : St) (Inv : St → Prop) (Q : Exit → St → Prop) (s : St) : EachPost R V r st Inv Q .normal s = ((s.ver R = V ∧ s.h R = recB r .busy none) ∧ Inv (st.mem s)) := nrfl _
theorem w_ep_ret (R V : Nat) (r : Loop) (st : St) (Inv : St → Prop) (Q : Exit → St → Prop) (s : St) : EachPost R V r st Inv Q .ret s = ((s.ver R = V ∧ s.h R = recB r .busy none) ∧ Q .ret (st.mem (s.setH R .none))) := nrfl _
theorem w_ep_exit (R V : Nat) (r : Loop) (st : St) (Inv : St → Prop) (Q : Exit → St → Prop) (s : St) (id : Nat) : EachPost R V r st Inv Q (.exit id) s = ((s.ver R = V ∧ s.h R = recB r .busy none) ∧ Q (.exit id) (st.mem (s.setH R .none))) := nrfl _
attribute [go_sem ↓] w_ep_normal w_ep_ret w_ep_exit

theorem mem_set {R : Nat} (st si s : St) (b : Blk) (d d' : Nat) (x x' : AV) : st.mem ((((si.mem (s.setH R b)).put (some d) x).put (some d') x').setH R .none) = st.mem (s.setH R .none) := by
  simp only [St.mem, St.setH, St.put]
  congr 1
  funext j
  by_cases h : j = R <;> simp [upd, h]

set_option maxRecDepth 8000 in
set_option maxHeartbeats 4000000 in
theorem range_each {w0 : World} {S0 : Nat → Prop} {n : Nat} {e00 : Option Env} {st : St} {g : Operand} {ps : Array Tmp} {assign body : Code} {Q : Exit → St → Prop} {s : List EntD} (R : Nat) (hRn : R < 20000)
    (hg : st.ev g = .fn (.func 39) [] [.eptr [ents s] 0]) (hps1 : ps.size = 1) (hps : ∀ t ∈ ps.toList, t < n) (hlen : s.length ≤ maxLen)
    (Inv : Nat → St → Prop) (low : ∀ k s1 s2, Inv k s1 → s2.σ = s1.σ → Agree R s1 s2 → Inv k s2) (h0 : Inv 0 st)
    (round : ∀ (k : Nat) (hk : k < s.length) (s1 : St) (l : Nat) (r : Loop) (V : Nat) (e0 : Option Env), Inv k s1 → s1.σ = st.σ → s1.ver R = V → s1.h R = recB r .ready none →
      AWp ⟨Try.prog, w0, S0, n, some l, fun d => d, e0⟩ assign (PostAssign ⟨Try.prog, w0, S0, n, none, fun d => d, e00⟩ l R V r body (EachPost R V r st (Inv (k + 1)) Q)) ⟨fillSlots st.σ ps.toList [ent s[k]], s1.ver, s1.h⟩)
    (done : ∀ s1, Inv s.length s1 → s1.σ = st.σ → Q .normal s1) : AWp ⟨Try.prog, w0, S0, n, none, fun d => d, e00⟩ (.rangeFunc g ps assign body) Q st := by
  refine AWp.rangeFunc R 20000 rfl hg Try.func39 rfl rfl Try.ntmps39 (congrArg Array.toList Try.results39) (by simp) fun l r e0 L => AWp.of_vc [4] ?_
  simp [go_sem]
  have hne : ∀ d, ¬ d + 20000 = R := fun d => by omega
  have hne' : ∀ d, ¬ R = d + 20000 := fun d => by omega
  refine AWp.loop_vc [] (fun m s' => ∃ k : Nat, k ≤ s.length ∧ m = s.length - k ∧ s'.σ 0 = .v (.func (.yield l) #[] #[]) ∧ s'.σ 5 = ents s ∧ s'.σ 6 = I s.length ∧ s'.σ 7 = I k ∧ s'.ver R = st.ver R + 1 ∧ s'.h R = recB r .ready none ∧ Inv k (st.mem s')) s.length ⟨0, by simp, by simp, by simp [go_sem], by simp [go_sem], by simp [go_sem], by simp [go_sem], by simp [go_sem], by simp [go_sem], low 0 st _ h0 rfl fun id h1 h2 => by simp [go_sem, h2]⟩ ?_
  rintro m s' ⟨k, hk, rfl, g0, g5, g6, g7, gV, gR, gI⟩
  by_cases hlt : k < s.length
  · simp [go_sem, g0, g5, g6, g7, hlt, hne 4, hne' 4]
    refine YieldSem.round L (by simp [go_sem]) (by simp [hps1]) hps (by simp [go_sem, gV, hne 4, hne' 4]) (by simp [go_sem, gR, hne 4, hne' 4]) fun e0 => ?_
    refine AWp.mono (round k hlt (st.mem _) l r (st.ver R + 1) e0 (low k _ _ gI rfl fun id h1 h2 => ?_) rfl (by simp [go_sem, gV, hne 4, hne' 4]) (by simp [go_sem, gR, hne 4, hne' 4])) fun e s1 hpa => PostAssign.mono (fun e2 s2 h2 => ?_) hpa
    · have : ¬ id = 20004 := by omega
      simp [go_sem, this]
    cases e2 with
    | normal =>
      obtain ⟨hc, hi⟩ := h2
      refine ⟨hc, ?_⟩
      simp [go_sem, g0, g5, g6, g7, hlt]
      refine ⟨s.length - (k + 1), by omega, k + 1, by omega, rfl, by rw [wrap_succ hlt hlen]; rfl, by rw [hc.1], low _ _ _ hi rfl fun id h1 h2 => by simp [go_sem, h2]⟩
    | ret =>
      obtain ⟨hc, hi⟩ := h2
      refine ⟨hc, ?_⟩
      simp [go_sem]
      refine ⟨by rw [hc.1], .inr ⟨.ret, rfl, AWp.ret ?_⟩⟩
      rw [mem_set]
      exact hi
    | exit id =>
      obtain ⟨hc, hi⟩ := h2
      refine ⟨hc, ?_⟩
      simp [go_sem]
      refine ⟨by rw [hc.1], .inr ⟨.exit id, rfl, AWp.exit ?_⟩⟩
      rw [mem_set]
      exact hi
    | _ => exact h2.elim
  · have hk' : k = s.length := by omega
    subst hk'
    simp [go_sem, g0, g5, g6, g7]
    refine ⟨gV, .inl ⟨gR, done _ (low _ _ _ gI rfl fun id h1 h2 => by simp [go_sem, h2]) rfl⟩⟩
end Go.Proofs.Ytabjpmleboeimaa

-- part S3
namespace Go.Proofs.Ytabjpmleboeimaa
open Go Go.Abs
set_option linter.unusedSimpArgs false
theorem pure_eachFn (s : List EntD) : Pure (.fn (.func 39) [] [.eptr [ents s] 0]) := pure_fn (fun c h => by cases h) fun c h => by
  simp only [List.mem_singleton] at h; subst h
  exact pure_eptr fun c h => by simp only [List.mem_singleton] at h; subst h; exact pure_ents s
set_option maxRecDepth 8000 in
set_option maxHeartbeats 4000000 in
theorem each_ac (s : List EntD) : AC Try.prog 27 [ents s] (.fn (.func 39) [] [.eptr [ents s] 0]) := by
  refine AC.of_body Try.func27 rfl rfl Try.ntmps27 (congrArg Array.toList Try.results27) (by simp) (pures1 (pure_ents _)) (pure_eachFn s) fun w S' => AWp.of_vc [] ?_
  simp [go_sem]
  refine PostR.ret ?_
  simp [go_sem]

def diffOf (a b : List EntD) : List EntD := b.filter fun e => getOf a e.kind e.key != some e.id
theorem filter_take {α : Type} (p : α → Bool) (l : List α) (k : Nat) (h : k < l.length) : (l.take (k + 1)).filter p = if p l[k] = true then (l.take k).filter p ++ [l[k]] else (l.take k).filter p := by
  rw [List.take_succ_eq_append_getElem h, List.filter_append]
  split
  · rename_i hp; simp [hp]
  · rename_i hp; simp [hp]

end Go.Proofs.Ytabjpmleboeimaa

-- part S4
namespace Go.Proofs.Ytabjpmleboeimaa
open Go Go.Abs
set_option linter.unusedSimpArgs false
theorem wrap_nat {k : Nat} (hm : k ≤ maxLen) : IntKind.i64.wrap (k : Int) = (k : Int) := wrap_i64 (by omega) (by unfold maxLen at hm; omega)

def adj : List EntD → Bool
  | a :: b :: l => prec a b && adj (b :: l)
  | _ => true
theorem adj_get : ∀ {l : List EntD}, adj l = true → ∀ (i : Nat) a b, l[i]? = some a → l[i + 1]? = some b → prec a b = true
  | [], _, i, a, b, h, _ => by simp at h
  | [x], _, i, a, b, h, k => by simp at k
  | x :: y :: l, hs, 0, a, b, h, k => by
    simp at h k; subst h; subst k
    simp only [adj, Bool.and_eq_true] at hs; exact hs.1
  | x :: y :: l, hs, i + 1, a, b, h, k => by
    simp only [adj, Bool.and_eq_true] at hs
    exact adj_get hs.2 i a b (by simpa using h) (by simpa using k)
theorem adj_of : ∀ {l : List EntD}, (∀ (i : Nat) a b, l[i]? = some a → l[i + 1]? = some b → prec a b = true) → adj l = true
  | [], _ => rfl
  | [x], _ => rfl
  | x :: y :: l, h => by
    simp only [adj, Bool.and_eq_true]
    exact ⟨h 0 x y rfl rfl, adj_of fun i a b h1 h2 => h (i + 1) a b (by simpa using h1) (by simpa using h2)⟩
def goodE (e : EntD) : Bool := isSt e.kind && decide (0 ≤ e.id)
def checkOf (s : List EntD) : Int := if adj s = false then 8 else if s.all goodE = false then 1 else if 2000 < s.length then 7 else 0
theorem adj_false {s : List EntD} {q : Nat} (h : q + 1 < s.length) (hp : prec s[q] s[q + 1] = false) : adj s = false := by
  cases ha : adj s with
  | false => rfl
  | true =>
    have := adj_get ha q _ _ (List.getElem?_eq_getElem (by omega)) (List.getElem?_eq_getElem h)
    rw [hp] at this; cases this
theorem all_false {α : Type} {p : α → Bool} {l : List α} {k : Nat} (h : k < l.length) (hp : p l[k] = false) : l.all p = false := by
  cases ha : l.all p with
  | false => rfl
  | true => rw [List.all_eq_true] at ha; have := ha _ (List.getElem_mem h); rw [hp] at this; cases this
theorem all_true {α : Type} {p : α → Bool} {l : List α} (h : ∀ (j : Nat) x, l[j]? = some x → p x = true) : l.all p = true := by
  rw [List.all_eq_true]
  intro x hx
  obtain ⟨j, hj⟩ := List.mem_iff_getElem?.1 hx
  exact h j x hj
theorem below_step {α : Type} {l : List α} {P : α → Prop} {k : Nat} (hk : k < l.length) (h : ∀ (j : Nat) x, j < k → l[j]? = some x → P x) (hp : P l[k]) : ∀ (j : Nat) x, j < k + 1 → l[j]? = some x → P x := by
  intro j x hj hx
  rcases Nat.lt_succ_iff_lt_or_eq.1 hj with hj | rfl
  · exact h j x hj hx
  · rw [List.getElem?_eq_getElem hk] at hx; cases hx; exact hp
theorem adj_step {l : List EntD} {q : Nat} (hk : q + 1 < l.length) (h : ∀ (i : Nat) a b, i < q → l[i]? = some a → l[i + 1]? = some b → prec a b = true) (hp : prec l[q] l[q + 1] = true) : ∀ (i : Nat) a b, i < q + 1 → l[i]? = some a → l[i + 1]? = some b → prec a b = true := by
  intro i a b hi ha hb
  rcases Nat.lt_succ_iff_lt_or_eq.1 hi with hi | rfl
  · exact h i a b hi ha hb
  · rw [List.getElem?_eq_getElem (by omega)] at ha; rw [List.getElem?_eq_getElem hk] at hb; cases ha; cases hb; exact hp

set_option maxRecDepth 8000 in
set_option maxHeartbeats 4000000 in
theorem rcheck_ac (s : List EntD) : AC Try.prog 21 [ents s] (I (checkOf s)) := by
  refine AC.of_body Try.func21 rfl rfl Try.ntmps21 (congrArg Array.toList Try.results21) (by simp) (pures1 (pure_ents _)) (pure_I _) fun w S' => AWp.bound 0 rfl fun hlen => AWp.of_vc [] ?_
  rw [ents_len] at hlen
  simp [go_sem]
  refine AWp.loop_vc [] (fun m s' => ∃ q : Nat, q ≤ s.length - 1 ∧ m = s.length - q ∧ s'.σ 0 = ents s ∧ s'.σ 3 = I ((q : Int) + 1) ∧ ∀ (i : Nat) a b, i < q → s[i]? = some a → s[i + 1]? = some b → prec a b = true) s.length ⟨0, by simp [go_sem]⟩ ?_
  rintro m s' ⟨q, hq, rfl, h0, h3, hno⟩
  by_cases hlt : q + 1 < s.length
  · have hlt' : (q : Int) + 1 < s.length := by omega
    have hq' : q < s.length := by omega
    have hp1 : (0 : Int) ≤ (q : Int) + 1 := by omega
    have ht1 : ((q : Int) + 1).toNat = q + 1 := by omega
    simp [go_sem, h0, h3, hlt']
    refine AWp.drawAll rfl (by kernel_rfl) ?_
    simp [go_sem, h0, h3, hlt', hlt, hq', hp1, ht1, wrap_nat (show q ≤ maxLen by omega)]
    refine CalmThen.pure (ahead_ac s[q].kind s[q + 1].kind s[q].key s[q + 1].key) (by simp [go_sem]) ?_
    have hpe : prec ⟨s[q].kind, s[q].key, 0⟩ ⟨s[q + 1].kind, s[q + 1].key, 0⟩ = prec s[q] s[q + 1] := rfl
    rw [hpe]
    cases hp : prec s[q] s[q + 1] with
    | false =>
      simp [go_sem]
      refine PostR.ret ?_
      simp [go_sem, checkOf, adj_false hlt hp]
    | true =>
      have hw2 : IntKind.i64.wrap ((q : Int) + 1 + 1) = (q : Int) + 1 + 1 := by
        have := wrap_succ hlt hlen; simpa using this
      simp [go_sem, h0, h3, hw2]
      exact ⟨s.length - (q + 1), by omega, q + 1, by omega, rfl, by omega, adj_step hlt hno hp⟩
  · have hlt' : ¬ (q : Int) + 1 < s.length := by omega
    have ha : adj s = true := adj_of fun i a b h1 h2 => hno i a b (by have := (List.getElem?_eq_some_iff.1 h2).1; omega) h1 h2
    simp [go_sem, h0, h3, hlt']
    refine AWp.loop_vc [] (fun m s' => ∃ k : Nat, k ≤ s.length ∧ m = s.length - k ∧ s'.σ 0 = ents s ∧ s'.σ 4 = I k ∧ ∀ (j : Nat) e, j < k → s[j]? = some e → goodE e = true) s.length ⟨0, by simp [go_sem, h0]⟩ ?_
    rintro m s2 ⟨k, hk, rfl, g0, g4, hyes⟩
    by_cases hkl : k < s.length
    · simp [go_sem, g0, g4, hkl]
      refine CallSem.pure (kind_ac s[k].kind) (by simp [go_sem]) ?_
      have hw := wrap_succ hkl hlen
      cases hs : isSt s[k].kind with
      | false =>
        simp [go_sem, g0, g4, hkl]
        refine PostR.ret ?_
        simp [go_sem, checkOf, ha, all_false hkl (show goodE s[k] = false by simp [goodE, hs])]
      | true =>
        by_cases hi : s[k].id < 0
        · simp [go_sem, g0, g4, hkl, hi]
          refine PostR.ret ?_
          simp [go_sem, checkOf, ha, all_false hkl (show goodE s[k] = false by simp [goodE, hs, hi])]
        · simp [go_sem, g0, g4, hkl, hi]
          refine ⟨s.length - (k + 1), by omega, k + 1, by omega, rfl, by rw [hw]; rfl, below_step hkl hyes ?_⟩
          simp [goodE, hs]; omega
    · have hg : s.all goodE = true := all_true fun j x hx => hyes j x (by have := (List.getElem?_eq_some_iff.1 hx).1; omega) hx
      by_cases hbig : (2000 : Int) < s.length
      · have hb' : 2000 < s.length := by omega
        simp [go_sem, g0, g4, hkl, hbig]
        refine PostR.ret ?_
        simp only [checkOf, ha, hg]
        simp [go_sem, hb']
      · have hb' : ¬ 2000 < s.length := by omega
        simp [go_sem, g0, g4, hkl, hbig]
        refine PostR.ret ?_
        simp only [checkOf, ha, hg]
        simp [go_sem, hb']
end Go.Proofs.Ytabjpmleboeimaa

-- part S5
namespace Go.Proofs.Ytabjpmleboeimaa
open Go Go.Abs
set_option linter.unusedSimpArgs false
def setOf (s : List EntD) (k : Int) (key : Bytes) (id : Int) : List EntD :=
  s.take (fidx s ⟨k, key, 0⟩) ++ ⟨k, key, id⟩ :: s.drop (if fok s ⟨k, key, 0⟩ = true then fidx s ⟨k, key, 0⟩ + 1 else fidx s ⟨k, key, 0⟩)
theorem takeWhile_at {α : Type} (p : α → Bool) : ∀ (l : List α) (e : α), l[(l.takeWhile p).length]? = some e → p e = false
  | [], e, h => by simp at h
  | x :: l, e, h => by
    by_cases hx : p x = true
    · simp only [List.takeWhile_cons, hx, if_true, List.length_cons, List.getElem?_cons_succ] at h
      exact takeWhile_at p l e h
    · simp only [List.takeWhile_cons, hx, Bool.false_eq_true, if_false, List.length_nil, List.getElem?_cons_zero, Option.some.injEq] at h
      subst h; simpa using hx
theorem fidx_at {s : List EntD} {x : EntD} (h : fidx s x < s.length) : prec s[fidx s x] x = false := by
  unfold fidx at h ⊢
  exact takeWhile_at (fun e : EntD => prec e x) s _ (List.getElem?_eq_getElem h)
theorem fok_iff {s : List EntD} {x : EntD} (h : fidx s x < s.length) : fok s x = true ↔ s[fidx s x].kind = x.kind ∧ s[fidx s x].key = x.key := by
  have h1 := fidx_at h
  unfold fok
  rw [List.getElem?_eq_getElem h]
  simp only [Option.elim_some, Bool.not_eq_true']
  constructor
  · exact fun h2 => prec_total _ _ h1 h2
  · rintro ⟨e1, e2⟩
    simp [prec, e1, e2, bl_irrefl]
theorem fok_out {s : List EntD} {x : EntD} (h : ¬ fidx s x < s.length) : fok s x = false := by
  cases hf : fok s x with
  | false => rfl
  | true => exact (h (fok_lt hf)).elim


end Go.Proofs.Ytabjpmleboeimaa

-- part S6
namespace Go.Proofs.Ytabjpmleboeimaa
open Go Go.Abs
set_option linter.unusedSimpArgs false
def allOf (l : List (List EntD)) (e : EntD) : Bool := l.all fun s => getOf s e.kind e.key == some e.id
def rallOf (l : List (List EntD)) (e : EntD) : Bool := l.all fun s => rgetOf s e.kind e.key == some e.id
set_option maxRecDepth 8000 in
set_option maxHeartbeats 4000000 in
theorem all_ac (l : List (List EntD)) (e : EntD) : AC Try.prog 28 [states l, ent e] (B (allOf l e)) := by
  refine AC.of_body Try.func28 rfl rfl Try.ntmps28 (congrArg Array.toList Try.results28) (by simp) (pures2 (pure_states _) (pure_ent _)) (pure_B _) fun w S' => AWp.bound 0 rfl fun hlen => AWp.of_vc [] ?_
  rw [states_len] at hlen
  simp [go_sem]
  refine AWp.loop_vc [] (fun m s' => ∃ k : Nat, k ≤ l.length ∧ m = l.length - k ∧ s'.σ 3 = .eptr (enc e) 0 ∧ s'.σ 9 = states l ∧ s'.σ 10 = I l.length ∧ s'.σ 11 = I k ∧ ∀ (j : Nat) s, j < k → l[j]? = some s → getOf s e.kind e.key = some e.id) l.length ⟨0, by simp [go_sem]⟩ ?_
  rintro m s' ⟨k, hk, rfl, h3, h9, h10, h11, hyes⟩
  by_cases hlt : k < l.length
  · have bad : getOf l[k] e.kind e.key ≠ some e.id → allOf l e = false := fun h => all_false hlt (by simpa using h)
    simp [go_sem, h3, h9, h10, h11, hlt]
    refine CallSem.pure (get_ac l[k] e.kind e.key) (by simp [go_sem]) ?_
    cases hg : getOf l[k] e.kind e.key with
    | none =>
      simp [go_sem, h3, h9, h10, h11]
      refine PostR.ret ?_
      rw [bad (by rw [hg]; simp)]
      simp [go_sem]
    | some id =>
      by_cases hid : id = e.id
      · simp [go_sem, h3, h9, h10, h11, hid, wrap_succ hlt hlen]
        exact ⟨l.length - (k + 1), by omega, k + 1, by omega, rfl, rfl, below_step hlt hyes (by rw [hg, hid])⟩
      · simp [go_sem, h3, h9, h10, h11, hid]
        refine PostR.ret ?_
        rw [bad (by rw [hg]; simpa using hid)]
        simp [go_sem]
  · have ok : allOf l e = true := all_true fun j s hj => by simpa using hyes j s (by have := (List.getElem?_eq_some_iff.1 hj).1; omega) hj
    simp [go_sem, h3, h9, h10, h11, hlt]
    refine PostR.ret ?_
    simp [go_sem, ok]
set_option maxRecDepth 8000 in
set_option maxHeartbeats 4000000 in
theorem rall_ac (l : List (List EntD)) (e : EntD) : AC Try.prog 37 [states l, ent e] (B (rallOf l e)) := by
  refine AC.of_body Try.func37 rfl rfl Try.ntmps37 (congrArg Array.toList Try.results37) (by simp) (pures2 (pure_states _) (pure_ent _)) (pure_B _) fun w S' => AWp.bound 0 rfl fun hlen => AWp.of_vc [] ?_
  rw [states_len] at hlen
  simp [go_sem]
  refine AWp.loop_vc [] (fun m s' => ∃ k : Nat, k ≤ l.length ∧ m = l.length - k ∧ s'.σ 0 = states l ∧ s'.σ 3 = .eptr (enc e) 0 ∧ s'.σ 5 = I k ∧ ∀ (j : Nat) s, j < k → l[j]? = some s → rgetOf s e.kind e.key = some e.id) l.length ⟨0, by simp [go_sem]⟩ ?_
  rintro m s' ⟨k, hk, rfl, h0, h3, h5, hyes⟩
  by_cases hlt : k < l.length
  · have bad : rgetOf l[k] e.kind e.key ≠ some e.id → rallOf l e = false := fun h => all_false hlt (by simpa using h)
    simp [go_sem, h0, h3, h5, hlt]
    refine AWp.drawAll rfl (by kernel_rfl) ?_
    simp [go_sem, h0, h3, h5, hlt]
    refine CalmThen.pure (rget_ac l[k] e.kind e.key) rfl ?_
    cases hg : rgetOf l[k] e.kind e.key with
    | none =>
      simp [go_sem, h0, h3, h5]
      refine PostR.ret ?_
      rw [bad (by rw [hg]; simp)]
      simp [go_sem]
    | some id =>
      by_cases hid : id = e.id
      · simp [go_sem, h0, h3, h5, hid, wrap_succ hlt hlen]
        exact ⟨l.length - (k + 1), by omega, k + 1, by omega, rfl, rfl, below_step hlt hyes (by rw [hg, hid])⟩
      · simp [go_sem, h0, h3, h5, hid]
        refine PostR.ret ?_
        rw [bad (by rw [hg]; simpa using hid)]
        simp [go_sem]
  · have ok : rallOf l e = true := all_true fun j s hj => by simpa using hyes j s (by have := (List.getElem?_eq_some_iff.1 hj).1; omega) hj
    simp [go_sem, h0, h3, h5, hlt]
    refine PostR.ret ?_
    simp [go_sem, ok]
def rdiffOf (a b : List EntD) : List EntD := b.filter fun e => rgetOf a e.kind e.key != some e.id
end Go.Proofs.Ytabjpmleboeimaa

-- part S7
namespace Go.Proofs.Ytabjpmleboeimaa
open Go Go.Abs
set_option linter.unusedSimpArgs false
def idsS (a : EntD → Bool) (s : List EntD) : List Int := (s.filter fun e => !a e).map (·.id)
def idsO (a : EntD → Bool) (l : List (List EntD)) (k : Nat) : List Int := (l.take k).flatMap (idsS a)
def sameO (a : EntD → Bool) (l : List (List EntD)) (k : Nat) : List EntD := if k = 0 then [] else (l.getD 0 []).filter a
theorem idsO_succ (a : EntD → Bool) {l : List (List EntD)} {k : Nat} (h : k < l.length) : idsO a l (k + 1) = idsO a l k ++ idsS a l[k] := by
  unfold idsO
  rw [List.take_succ_eq_append_getElem h, List.flatMap_append]
  simp
theorem idsS_succ (a : EntD → Bool) {s : List EntD} {q : Nat} (h : q < s.length) : idsS a (s.take (q + 1)) = if a s[q] = true then idsS a (s.take q) else idsS a (s.take q) ++ [s[q].id] := by
  unfold idsS
  rw [filter_take _ _ _ h]
  cases ha : a s[q] <;> simp
def splitAV (a : EntD → Bool) (l : List (List EntD)) : AV := .tup [ents (sameO a l l.length), ints (sortedL (idsO a l l.length))]
theorem pureR_split (a : EntD → Bool) (l : List (List EntD)) : PureR (splitAV a l) := pureR_tup2 (pure_ents _) (pure_ints _) (pure_ents _) (pure_ints _)
theorem idsS_len (a : EntD → Bool) (s : List EntD) : (idsS a s).length ≤ s.length := by
  unfold idsS; rw [List.length_map]; exact List.length_filter_le _ _
set_option maxRecDepth 8000 in
set_option maxHeartbeats 4000000 in
theorem split_ac (l : List (List EntD)) (hn : l.length ≤ 1000) (hs : ∀ s ∈ l, s.length ≤ 1000) : AC Try.prog 14 [states l] (splitAV (allOf l) l) := by
  refine AC.of_body Try.func14 rfl rfl Try.ntmps14 (congrArg Array.toList Try.results14) (by simp) (pures1 (pure_states _)) (pureR_split _ _) fun w S' => AWp.of_vc [] ?_
  have hm : l.length ≤ maxLen := by unfold maxLen; omega
  simp [go_sem]
  refine AWp.ownNilBox 4 33 54 3 (by simp [go_sem]) (by decide) ?_
  refine AWp.ownNilBox 5 27 3 1 (by simp [go_sem]) (by decide) ?_
  refine AWp.loop_vc [] (fun m s => ∃ k v w : Nat, k ≤ l.length ∧ m = l.length - k ∧ s.σ 1 = .eptr [states l] 0 ∧ s.σ 4 = .rptr 4 1 0 0 ∧ s.ver 4 = 1 ∧ s.h 4 = .box [.ref 33 v] ∧ s.ver 33 = v ∧ s.h 33 = .arr 54 3 ((sameO (allOf l) l k).map ent) ∧
    s.σ 5 = .rptr 5 1 0 0 ∧ s.ver 5 = 1 ∧ s.h 5 = .box [.ref 27 w] ∧ s.ver 27 = w ∧ s.h 27 = .arr 3 1 ((idsO (allOf l) l k).map I) ∧ s.σ 9 = states l ∧ s.σ 10 = I l.length ∧ s.σ 11 = I k ∧ (idsO (allOf l) l k).length ≤ 1000 * k ∧ (sameO (allOf l) l k).length ≤ 1000) l.length ⟨0, 1, 1, by simp [go_sem, sameO, idsO]⟩ ?_
  rintro m s ⟨k, v, w', hk, rfl, h1, h4, v4, b4, v33, a33, h5, v5, b5, v27, a27, h9, h10, h11, hli, hls⟩
  by_cases hlt : k < l.length
  · have hsk : l[k].length ≤ 1000 := hs _ (List.getElem_mem hlt)
    simp [go_sem, h1, h4, h5, h9, h10, h11, hlt]
    refine CallSem.pure (each_ac l[k]) (by simp [go_sem]) ?_
    simp [go_sem, h1, h4, h5, h9, h10, h11, hlt]
    refine range_each (s := l[k]) 19999 (by decide) (by simp [go_sem]) rfl (by simp) (by unfold maxLen; omega) (fun q s1 => ∃ v w : Nat, s1.ver 4 = 1 ∧ s1.h 4 = .box [.ref 33 v] ∧ s1.ver 33 = v ∧ s1.h 33 = .arr 54 3 ((if k = 0 then (l[k].take q).filter (allOf l) else sameO (allOf l) l k).map ent) ∧
      s1.ver 5 = 1 ∧ s1.h 5 = .box [.ref 27 w] ∧ s1.ver 27 = w ∧ s1.h 27 = .arr 3 1 ((idsO (allOf l) l k ++ idsS (allOf l) (l[k].take q)).map I) ∧ s1.ver 6 = s.ver 6 + 1 ∧ s1.h 6 = .box [I k]) ?_ ⟨v, w', by by_cases hk0 : k = 0 <;> simp [go_sem, v4, b4, v33, a33, v5, b5, v27, a27, idsS, sameO, hk0]⟩ ?_ ?_
    · rintro q s1 s2 ⟨v, w, g1, g2, g3, g4, g5, g6, g7, g8, g9, g10⟩ hσ hag
      have a4 := hag 4 (by decide) (by decide)
      have a33 := hag 33 (by decide) (by decide)
      have a5 := hag 5 (by decide) (by decide)
      have a27 := hag 27 (by decide) (by decide)
      have a6 := hag 6 (by decide) (by decide)
      exact ⟨v, w, a4.1.trans g1, a4.2.trans g2, a33.1.trans g3, a33.2.trans g4, a5.1.trans g5, a5.2.trans g6, a27.1.trans g7, a27.2.trans g8, a6.1.trans g9, a6.2.trans g10⟩
    · rintro q hq s1 L r V e0 ⟨v, w, g1, g2, g3, g4, g5, g6, g7, g8, g9, g10⟩ hσ hV hR
      have hl1 := idsS_len (allOf l) (l[k].take q)
      have hl2 : (List.filter (allOf l) (l[k].take q)).length ≤ 1000 := by
        have := List.length_filter_le (allOf l) (l[k].take q)
        simp only [List.length_take] at this; omega
      simp only [List.length_take] at hl1
      have hids := idsS_succ (allOf l) hq
      have hsm := filter_take (allOf l) _ _ hq
      refine AWp.of_vc [8, 27, 33] ?_
      simp [go_sem, hV, hR]
      intro e1
      refine AWp.of_vc [8, 27, 33] ?_
      simp [go_sem, hV, hR, h1]
      refine CallSem.pure (all_ac l l[k][q]) (by simp [go_sem]) ?_
      cases ha : allOf l l[k][q] with
      | false =>
        rw [ha] at hids hsm
        simp at hids hsm
        simp [go_sem, hV, hR, h5, g1, g2, g3, g4, g5, g6, g7, g8, g9, g10, hids, hsm]
        omega
      | true =>
        rw [ha] at hids hsm
        simp at hids hsm
        have h6 : True := trivial
        by_cases hk0 : k = 0
        · subst hk0
          simp [go_sem, hV, hR, h4, g1, g2, g3, g4, g5, g6, g7, g8, g9, g10, hids, hsm]
          omega
        · have hk0' : ¬ (k : Int) = 0 := by omega
          simp [go_sem, hV, hR, h4, g1, g2, g3, g4, g5, g6, g7, g8, g9, g10, hids, hsm, hk0, hk0']
    · rintro s1 ⟨v, w, g1, g2, g3, g4, g5, g6, g7, g8, g9, g10⟩ hσ
      rw [List.take_length] at g4 g8
      simp [go_sem, hσ, h1, h4, h5, h9, h10, h11, wrap_succ hlt hm]
      refine ⟨l.length - (k + 1), by omega, k + 1, by omega, rfl, g1, v, g2, g3, ?_, g5, w, g6, g7, ?_, rfl, ?_, ?_⟩
      · rw [g4]
        congr 2
        by_cases hk0 : k = 0
        · subst hk0; simp [sameO, List.getD, hlt]
        · simp [sameO, hk0]
      · rw [g8, idsO_succ _ hlt]
      · rw [idsO_succ _ hlt, List.length_append]
        have := idsS_len (allOf l) l[k]
        omega
      · have h0 : (l.getD 0 []).length ≤ 1000 := by
          have hl0 : 0 < l.length := by omega
          simp only [List.getD, List.getElem?_eq_getElem hl0, Option.getD_some]
          exact hs _ (List.getElem_mem hl0)
        unfold sameO
        rw [if_neg (by omega)]
        exact Nat.le_trans (List.length_filter_le _ _) h0
  · have hk' : k = l.length := by omega
    subst hk'
    simp [go_sem, h1, h4, h5, h9, h10, h11]
    refine AWp.freeze 33 ?_
    refine AWp.freeze 27 ?_
    refine AWp.drawAll rfl (by kernel_rfl) ?_
    simp [go_sem, h1, h4, h5, v4, b4, v33, a33, v5, b5, v27, a27]
    refine CalmThen.pure (numSorted_ac (idsO (allOf l) l l.length) (by omega)) (by simp [go_sem]) ?_
    simp [go_sem]
    refine PostR.ret ?_
    simp [go_sem, splitAV, sortedSet_eq]
theorem foldl_putL_append (a b : List Int) : sortedL (a ++ b) = b.foldl putL (sortedL a) := by unfold sortedL; rw [List.foldl_append]
set_option maxRecDepth 8000 in
set_option maxHeartbeats 4000000 in
theorem rsplit_ac (l : List (List EntD)) (hn : l.length ≤ 1000) (hs : ∀ s ∈ l, s.length ≤ 1000) : AC Try.prog 24 [states l] (splitAV (rallOf l) l) := by
  refine AC.of_body Try.func24 rfl rfl Try.ntmps24 (congrArg Array.toList Try.results24) (by simp) (pures1 (pure_states _)) (pureR_split _ _) fun w S' => AWp.of_vc [8] ?_
  have hm : l.length ≤ maxLen := by unfold maxLen; omega
  simp [go_sem]
  refine AWp.loop_vc [8] (fun m s => ∃ k v : Nat, k ≤ l.length ∧ m = l.length - k ∧ s.σ 0 = states l ∧ s.σ 6 = I k ∧ s.σ 5 = ints (sortedL (idsO (rallOf l) l k)) ∧ s.σ 4 = .ref 8 v ∧ s.ver 8 = v ∧ s.h 8 = .arr 54 3 ((sameO (rallOf l) l k).map ent) ∧ (idsO (rallOf l) l k).length ≤ 1000 * k ∧ (sameO (rallOf l) l k).length ≤ 1000) l.length ⟨0, 1, by simp [go_sem, sameO, idsO, sortedL]⟩ ?_
  rintro m s ⟨k, v, hk, rfl, h0, h6, h5, h4, v8, a8, hli, hls⟩
  by_cases hlt : k < l.length
  · have hsk : l[k].length ≤ 1000 := hs _ (List.getElem_mem hlt)
    simp [go_sem, h0, h4, h5, h6, hlt]
    refine AWp.loop_vc [8] (fun m s => ∃ q v : Nat, q ≤ l[k].length ∧ m = l[k].length - q ∧ s.σ 0 = states l ∧ s.σ 6 = I k ∧ s.σ 7 = I q ∧ s.σ 5 = ints (sortedL (idsO (rallOf l) l k ++ idsS (rallOf l) (l[k].take q))) ∧ s.σ 4 = .ref 8 v ∧ s.ver 8 = v ∧ s.h 8 = .arr 54 3 ((if k = 0 then (l[k].take q).filter (rallOf l) else sameO (rallOf l) l k).map ent)) l[k].length ⟨0, v, by by_cases hk0 : k = 0 <;> simp [go_sem, h0, h4, h5, h6, v8, a8, idsS, sameO, hk0]⟩ ?_
    rintro m s' ⟨q, v, hq, rfl, g0, g6, g7, g5, g4, gv, ga⟩
    by_cases hql : q < l[k].length
    · have hl1 := idsS_len (rallOf l) (l[k].take q)
      have hl2 : (List.filter (rallOf l) (l[k].take q)).length ≤ 1000 := by
        have := List.length_filter_le (rallOf l) (l[k].take q)
        simp only [List.length_take] at this; omega
      have hl3 : (sortedL (idsO (rallOf l) l k ++ idsS (rallOf l) (l[k].take q))).length ≤ 1000000000 := by
        have := foldl_putL_len (idsO (rallOf l) l k ++ idsS (rallOf l) (l[k].take q)) []
        simp only [List.length_append, List.length_nil, List.length_take] at this hl1
        unfold sortedL
        have : 1000 * k ≤ 1000 * 1000 := Nat.mul_le_mul_left _ (by omega)
        omega
      simp only [List.length_take] at hl1
      have hids := idsS_succ (rallOf l) hql
      have hsm := filter_take (rallOf l) _ _ hql
      have hw := wrap_succ hql (show l[k].length ≤ maxLen by unfold maxLen; omega)
      simp [go_sem, g0, g4, g5, g6, g7, hlt, hql]
      refine CallSem.pure (rall_ac l l[k][q]) (by simp [go_sem]) ?_
      cases ha : rallOf l l[k][q] with
      | false =>
        rw [ha] at hids hsm
        simp at hids hsm
        simp [go_sem, g0, g4, g5, g6, g7, hlt, hql]
        refine CallSem.pure (put_ac _ l[k][q].id hl3) (by simp [go_sem]) ?_
        simp [go_sem, g0, g4, g5, g6, g7, hlt, hql, hw]
        refine ⟨l[k].length - (q + 1), by omega, q + 1, by omega, rfl, rfl, ?_, gv, ?_⟩
        · rw [hids, ← List.append_assoc, foldl_putL_append _ [_]]; rfl
        · rw [ga, hsm]
      | true =>
        rw [ha] at hids hsm
        simp at hids hsm
        by_cases hk0 : k = 0
        · subst hk0
          simp [go_sem, g0, g4, g5, g6, g7, hlt, hql, gv, ga, hw]
          refine ⟨⟨by omega, by omega⟩, l[0].length - (q + 1), by omega, q + 1, by omega, rfl, rfl, by rw [hids], by rw [hsm]; simp [go_sem]⟩
        · have hk0' : ¬ (k : Int) = 0 := by omega
          simp [go_sem, g0, g4, g5, g6, g7, hlt, hql, gv, ga, hw, hk0, hk0']
          exact ⟨l[k].length - (q + 1), by omega, q + 1, by omega, rfl, rfl, by rw [hids]⟩
    · have hq' : q = l[k].length := by omega
      subst hq'
      rw [List.take_length] at g5 ga
      simp [go_sem, g0, g4, g5, g6, g7, hlt, wrap_succ hlt hm]
      refine ⟨l.length - (k + 1), by omega, k + 1, by omega, rfl, rfl, ?_, gv, ?_, ?_, ?_⟩
      · rw [idsO_succ _ hlt]
      · rw [ga]
        congr 2
        by_cases hk0 : k = 0
        · subst hk0; simp [sameO, List.getD, hlt]
        · simp [sameO, hk0]
      · rw [idsO_succ _ hlt, List.length_append]
        have := idsS_len (rallOf l) l[k]
        omega
      · have h0 : (l.getD 0 []).length ≤ 1000 := by
          have hl0 : 0 < l.length := by omega
          simp only [List.getD, List.getElem?_eq_getElem hl0, Option.getD_some]
          exact hs _ (List.getElem_mem hl0)
        unfold sameO
        rw [if_neg (by omega)]
        exact Nat.le_trans (List.length_filter_le _ _) h0
  · have hk' : k = l.length := by omega
    subst hk'
    simp [go_sem, h0, h4, h5, h6]
    refine PostR.retW [8] ?_ (.refl _)
    simp [go_sem, h0, h4, h5, h6, v8, a8, splitAV]

end Go.Proofs.Ytabjpmleboeimaa

-- part S8
namespace Go.Proofs.Ytabjpmleboeimaa
open Go Go.Abs
set_option linter.unusedSimpArgs false
def ofStep (s : List EntD) (e : Evt) : List EntD := if isSt e.kind = true then setOf s e.kind e.key e.id else s
def ofOf (l : List Evt) : List EntD := l.foldl ofStep []
theorem setOf_len (s : List EntD) (k : Int) (key : Bytes) (id : Int) : (setOf s k key id).length ≤ s.length + 1 := by
  unfold setOf
  have := fidx_le s ⟨k, key, 0⟩
  rw [List.length_append, List.length_cons, List.length_drop, List.length_take]
  split <;> omega
theorem ofStep_len (l : List Evt) : ∀ s : List EntD, (l.foldl ofStep s).length ≤ s.length + l.length := by
  induction l with
  | nil => intro s; simp
  | cons e l ih =>
    intro s
    have h1 := ih (ofStep s e)
    have h2 : (ofStep s e).length ≤ s.length + 1 := by
      unfold ofStep; split
      · exact setOf_len _ _ _ _
      · omega
    simp only [List.foldl_cons, List.length_cons]; omega
theorem ofOf_len (l : List Evt) (k : Nat) : (ofOf (l.take k)).length ≤ k := by
  have := ofStep_len (l.take k) []
  simp only [List.length_nil, List.length_take] at this
  unfold ofOf; omega
theorem ofOf_succ {l : List Evt} {k : Nat} (h : k < l.length) : ofOf (l.take (k + 1)) = ofStep (ofOf (l.take k)) l[k] := by
  unfold ofOf
  rw [List.take_succ_eq_append_getElem h, List.foldl_append]; rfl
def eventsOf (l : List Evt) (s : List EntD) : List Evt := s.filterMap fun e => getE l e.id
theorem eventsOf_succ (l : List Evt) {s : List EntD} {k : Nat} (h : k < s.length) : eventsOf l (s.take (k + 1)) = eventsOf l (s.take k) ++ (getE l s[k].id).toList := by
  unfold eventsOf
  rw [List.take_succ_eq_append_getElem h, List.filterMap_append]
  cases hg : getE l s[k].id <;> simp [hg]
theorem eventsOf_len (l : List Evt) (s : List EntD) (k : Nat) : (eventsOf l (s.take k)).length ≤ k := by
  have := List.length_filterMap_le (fun e : EntD => getE l e.id) (s.take k)
  simp only [List.length_take] at this
  unfold eventsOf; omega
theorem pureR_evs (l : List Evt) : PureR (evs l) := pure_evs l
end Go.Proofs.Ytabjpmleboeimaa

-- part P2
namespace Go.Proofs.Ytabjpmleboeimaa
open Go Go.Abs
theorem prec_key {a b c : EntD} (h : a.kind = b.kind ∧ a.key = b.key) : prec a c = prec b c ∧ prec c a = prec c b := by
  simp only [prec, h.1, h.2, and_self]
theorem prec_ne {a b : EntD} (h : prec a b = true) : ¬ (a.kind = b.kind ∧ a.key = b.key) := fun hk => by
  rw [(prec_key hk).1, prec_irrefl] at h; cases h
theorem adj_pairwise {s : List EntD} : adj s = true ↔ s.Pairwise fun a b => prec a b = true := by
  induction s with
  | nil => simp [adj]
  | cons a s ih =>
    cases s with
    | nil => simp [adj]
    | cons b l =>
      rw [List.pairwise_cons]
      simp only [adj, Bool.and_eq_true, ih]
      constructor
      · rintro ⟨h1, h2⟩
        refine ⟨fun c hc => ?_, h2⟩
        rcases List.mem_cons.1 hc with rfl | hc
        · exact h1
        · exact prec_trans _ _ _ h1 ((List.pairwise_cons.1 h2).1 c hc)
      · rintro ⟨h1, h2⟩
        exact ⟨h1 b (by simp), h2⟩
theorem find_none {p : EntD → Bool} {l : List EntD} (h : ∀ e ∈ l, p e = false) : l.find? p = none := by
  rw [List.find?_eq_none]; intro x hx; simp [h x hx]
/-- A state cut where an entry belongs. -/
theorem cut {s : List EntD} (hs : adj s = true) (x : EntD) : ∃ p q, s = p ++ q ∧ p.length = fidx s x ∧ (∀ e ∈ p, prec e x = true) ∧
    ((fok s x = false ∧ ∀ e ∈ q, prec x e = true) ∨ ∃ e r, q = e :: r ∧ fok s x = true ∧ (e.kind = x.kind ∧ e.key = x.key) ∧ ∀ c ∈ r, prec x c = true) := by
  refine ⟨s.takeWhile (fun e => prec e x), s.dropWhile (fun e => prec e x), List.takeWhile_append_dropWhile.symm, rfl, fun e he => ?_, ?_⟩
  · have := List.all_takeWhile (p := fun e : EntD => prec e x) (l := s)
    rw [List.all_eq_true] at this
    exact this e he
  have hsplit : s = s.takeWhile (fun e => prec e x) ++ s.dropWhile (fun e => prec e x) := List.takeWhile_append_dropWhile.symm
  have hpw : (s.dropWhile (fun e => prec e x)).Pairwise fun a b => prec a b = true := by
    have h1 := adj_pairwise.1 hs
    rw [hsplit, List.pairwise_append] at h1
    exact h1.2.1
  cases hq : s.dropWhile (fun e => prec e x) with
  | nil =>
    refine .inl ⟨fok_out ?_, fun e h => by cases h⟩
    rw [hq, List.append_nil] at hsplit
    unfold fidx
    rw [← hsplit]; omega
  | cons e r =>
    rw [hq] at hpw
    have hlt : fidx s x < s.length := by
      have h1 := congrArg List.length hsplit
      rw [hq, List.length_append, List.length_cons] at h1
      unfold fidx; omega
    have hat : s[fidx s x] = e := by
      have h1 : s[fidx s x]? = some e := by
        unfold fidx
        conv => lhs; lhs; rw [hsplit]
        rw [hq, List.getElem?_append_right (Nat.le_refl _), Nat.sub_self]; rfl
      rw [List.getElem?_eq_getElem hlt] at h1
      simpa using h1
    have hne := fidx_at hlt
    rw [hat] at hne
    by_cases hk : fok s x = true
    · have := (fok_iff hlt).1 hk
      rw [hat] at this
      exact .inr ⟨e, r, rfl, hk, this, fun c hc => by rw [← (prec_key this).1]; exact (List.pairwise_cons.1 hpw).1 c hc⟩
    · have hxe : prec x e = true := by
        cases hh : prec x e with
        | true => rfl
        | false =>
          have := prec_total _ _ hne hh
          exact (hk ((fok_iff hlt).2 (by rw [hat]; exact this))).elim
      refine .inl ⟨by simpa using hk, fun c hc => ?_⟩
      rcases List.mem_cons.1 hc with rfl | hc
      · exact hxe
      · exact prec_trans _ _ _ hxe ((List.pairwise_cons.1 hpw).1 c hc)
theorem isKey_prec {k : Int} {key : Bytes} {e : EntD} (h : prec e ⟨k, key, 0⟩ = true ∨ prec ⟨k, key, 0⟩ e = true) : isKey k key e = false := by
  cases hh : isKey k key e with
  | false => rfl
  | true =>
    have hk := isKey_iff.1 hh
    rcases h with h | h
    · exact (prec_ne h hk).elim
    · exact (prec_ne h ⟨hk.1.symm, hk.2.symm⟩).elim
theorem getOf_eq {s : List EntD} (hs : adj s = true) (k : Int) (key : Bytes) : getOf s k key = rgetOf s k key := by
  obtain ⟨p, q, hpq, hl, hp, h⟩ := cut hs ⟨k, key, 0⟩
  have hfp : p.find? (isKey k key) = none := find_none fun e he => isKey_prec (.inl (hp e he))
  unfold getOf rgetOf
  rcases h with ⟨hf, hq⟩ | ⟨e, r, rfl, hf, hk, hr⟩
  · have hfq : q.find? (isKey k key) = none := find_none fun e he => isKey_prec (.inr (hq e he))
    have : s.find? (isKey k key) = none := by rw [hpq, List.find?_append, hfp, hfq]; rfl
    simp [hf, this]
  · have h1 : s.find? (isKey k key) = some e := by
      rw [hpq, List.find?_append, hfp, List.find?_cons, isKey_iff.2 hk]; rfl
    have h2 : s[fidx s ⟨k, key, 0⟩]? = some e := by
      rw [← hl]
      conv => lhs; lhs; rw [hpq]
      rw [List.getElem?_append_right (Nat.le_refl _), Nat.sub_self]; rfl
    simp [hf, h1, h2]
/-- What Set makes of a valid state. -/
theorem setOf_cut {s : List EntD} (hs : adj s = true) (k : Int) (key : Bytes) (id : Int) : ∃ p r, setOf s k key id = p ++ ⟨k, key, id⟩ :: r ∧ (s = p ++ r ∨ ∃ e, s = p ++ e :: r ∧ e.kind = k ∧ e.key = key) ∧ (∀ e ∈ p, prec e ⟨k, key, 0⟩ = true) ∧ ∀ e ∈ r, prec ⟨k, key, 0⟩ e = true := by
  obtain ⟨p, q, hpq, hl, hp, h⟩ := cut hs ⟨k, key, 0⟩
  have htake : s.take (fidx s ⟨k, key, 0⟩) = p := by
    rw [← hl, hpq]; exact List.take_left
  have hdrop : s.drop (fidx s ⟨k, key, 0⟩) = q := by
    rw [← hl, hpq]; exact List.drop_left
  unfold setOf
  rcases h with ⟨hf, hq⟩ | ⟨e, r, rfl, hf, hk, hr⟩
  · refine ⟨p, q, ?_, .inl hpq, hp, hq⟩
    rw [htake, hf]; simp [hdrop]
  · refine ⟨p, r, ?_, .inr ⟨e, hpq, hk.1, hk.2⟩, hp, hr⟩
    rw [htake, hf, if_pos rfl, ← List.drop_drop, hdrop]; rfl
theorem adj_set {s : List EntD} (hs : adj s = true) (k : Int) (key : Bytes) (id : Int) : adj (setOf s k key id) = true := by
  obtain ⟨p, r, he, hor, hp, hr⟩ := setOf_cut hs k key id
  rw [he, adj_pairwise, List.pairwise_append, List.pairwise_cons]
  have hx : ∀ c : EntD, prec ⟨k, key, id⟩ c = prec ⟨k, key, 0⟩ c ∧ prec c ⟨k, key, id⟩ = prec c ⟨k, key, 0⟩ := fun c => prec_key ⟨rfl, rfl⟩
  have hsub : p.Pairwise (fun a b => prec a b = true) ∧ r.Pairwise (fun a b => prec a b = true) := by
    have h1 := adj_pairwise.1 hs
    rcases hor with h | ⟨e, h, _⟩
    · rw [h, List.pairwise_append] at h1; exact ⟨h1.1, h1.2.1⟩
    · rw [h, List.pairwise_append, List.pairwise_cons] at h1; exact ⟨h1.1, h1.2.1.2⟩
  refine ⟨hsub.1, ⟨fun c hc => by rw [(hx c).1]; exact hr c hc, hsub.2⟩, fun a ha b hb => ?_⟩
  rcases List.mem_cons.1 hb with rfl | hb
  · rw [(hx a).2]; exact hp a ha
  · exact prec_trans _ _ _ (hp a ha) (hr b hb)
theorem set_get {s : List EntD} (hs : adj s = true) (k : Int) (key : Bytes) (id : Int) : getOf (setOf s k key id) k key = some id := by
  rw [getOf_eq (adj_set hs k key id)]
  obtain ⟨p, r, he, _, hp, _⟩ := setOf_cut hs k key id
  have hfp : p.find? (isKey k key) = none := find_none fun e he => isKey_prec (.inl (hp e he))
  unfold rgetOf
  rw [he, List.find?_append, hfp, List.find?_cons, show isKey k key ⟨k, key, id⟩ = true from isKey_iff.2 ⟨rfl, rfl⟩]; rfl
theorem set_other {s : List EntD} (hs : adj s = true) (k : Int) (key : Bytes) (id : Int) {k' : Int} {key' : Bytes} (h : ¬ (k = k' ∧ key = key')) : getOf (setOf s k key id) k' key' = getOf s k' key' := by
  rw [getOf_eq (adj_set hs k key id), getOf_eq hs]
  obtain ⟨p, r, he, hor, _, _⟩ := setOf_cut hs k key id
  have h1 : isKey k' key' ⟨k, key, id⟩ = false := by
    cases hh : isKey k' key' ⟨k, key, id⟩ with
    | false => rfl
    | true => exact (h (isKey_iff.1 hh)).elim
  unfold rgetOf
  rw [he, List.find?_append, List.find?_cons, h1]
  rcases hor with hor | ⟨e, hor, hk, hkey⟩
  · rw [hor, List.find?_append]
  · have h2 : isKey k' key' e = false := by
      cases hh : isKey k' key' e with
      | false => rfl
      | true => have := isKey_iff.1 hh; exact (h ⟨by rw [← hk]; exact this.1, by rw [← hkey]; exact this.2⟩).elim
    rw [hor, List.find?_append, List.find?_cons, h2]
theorem check_zero {s : List EntD} : checkOf s = 0 ↔ adj s = true ∧ s.all goodE = true ∧ s.length ≤ 2000 := by
  unfold checkOf
  cases adj s <;> cases s.all goodE <;> simp
theorem allOf_eq {l : List (List EntD)} (h : ∀ s ∈ l, adj s = true) (e : EntD) : allOf l e = rallOf l e := by
  unfold allOf rallOf
  rw [Bool.eq_iff_iff, List.all_eq_true, List.all_eq_true]
  exact ⟨fun g s hs => by rw [← getOf_eq (h s hs)]; exact g s hs, fun g s hs => by rw [getOf_eq (h s hs)]; exact g s hs⟩
theorem diffOf_eq {a b : List EntD} (h : adj a = true) : diffOf a b = rdiffOf a b := by
  unfold diffOf rdiffOf
  congr 1
  funext e
  rw [getOf_eq h]
theorem diff_nil {a b : List EntD} : diffOf a b = [] ↔ ∀ e ∈ b, getOf a e.kind e.key = some e.id := by
  unfold diffOf
  rw [List.filter_eq_nil_iff]
  constructor
  · intro h e he; have := h e he; simpa using this
  · intro h e he; simp [h e he]
theorem get_self {s : List EntD} (hs : adj s = true) {e : EntD} (he : e ∈ s) : getOf s e.kind e.key = some e.id := by
  rw [getOf_eq hs]
  have hpw := adj_pairwise.1 hs
  clear hs
  induction s with
  | nil => cases he
  | cons a s ih =>
    rw [List.pairwise_cons] at hpw
    unfold rgetOf
    rcases List.mem_cons.1 he with rfl | he
    · rw [List.find?_cons, show isKey e.kind e.key e = true from isKey_iff.2 ⟨rfl, rfl⟩]; rfl
    · have : isKey e.kind e.key a = false := by
        cases hh : isKey e.kind e.key a with
        | false => rfl
        | true => exact (prec_ne (hpw.1 e he) (isKey_iff.1 hh)).elim
      rw [List.find?_cons, this]
      exact ih he hpw.2
theorem get_mem {s : List EntD} (hs : adj s = true) {k : Int} {key : Bytes} {id : Int} (h : getOf s k key = some id) : (⟨k, key, id⟩ : EntD) ∈ s := by
  rw [getOf_eq hs] at h
  unfold rgetOf at h
  obtain ⟨e, he, hid⟩ := Option.map_eq_some_iff.1 h
  have h1 := List.mem_of_find?_eq_some he
  have h2 := isKey_iff.1 (List.find?_some he)
  have : e = ⟨k, key, id⟩ := by cases e; simp_all
  rw [← this]; exact h1
theorem key_inj {s : List EntD} (hs : adj s = true) {a b : EntD} (ha : a ∈ s) (hb : b ∈ s) (hk : a.kind = b.kind ∧ a.key = b.key) : a = b := by
  have h1 := get_self hs ha
  have h2 := get_self hs hb
  rw [hk.1, hk.2, h2] at h1
  have : b.id = a.id := by simpa using h1
  cases a; cases b; simp_all
/-- Setting the entries of a difference. -/
theorem set_all {b : List EntD} (hb : adj b = true) : ∀ (d : List EntD) (t : List EntD), adj t = true → (∀ e ∈ d, e ∈ b) → (∀ e ∈ b, e ∈ d ∨ getOf t e.kind e.key = some e.id) → ∀ e ∈ b, getOf (d.foldl (fun t e => setOf t e.kind e.key e.id) t) e.kind e.key = some e.id
  | [], t, _, _, h, e, he => by
    rcases h e he with h | h
    · cases h
    · exact h
  | x :: d, t, ht, hd, h, e, he => by
    refine set_all hb d (setOf t x.kind x.key x.id) (adj_set ht _ _ _) (fun e he => hd e (by simp [he])) (fun e he => ?_) e he
    by_cases hk : x.kind = e.kind ∧ x.key = e.key
    · have := key_inj hb (hd x (by simp)) he hk
      subst this
      exact .inr (set_get ht _ _ _)
    · rcases h e he with h | h
      · rcases List.mem_cons.1 h with rfl | h
        · exact (hk ⟨rfl, rfl⟩).elim
        · exact .inl h
      · exact .inr (by rw [set_other ht _ _ _ hk]; exact h)
end Go.Proofs.Ytabjpmleboeimaa
