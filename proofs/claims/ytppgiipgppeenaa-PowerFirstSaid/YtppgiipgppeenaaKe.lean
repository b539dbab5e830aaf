/- Several texts of the proof in one: U4, P1, N1, N2, E2, S1, S2, S3, S4, S5. No condition. -/
import Derived.Test.YtppgiipgppeenaaKd
import Derived.Test.YtppgiipgppeenaaLa
set_option linter.unusedSimpArgs false
set_option linter.unusedVariables false
-- part U4
namespace Go.Proofs.Ytppgiipgppeenaa
open Go Go.Abs Go.Shelf
set_option linter.unusedSimpArgs false
set_option maxRecDepth 4000 in
set_option maxHeartbeats 1000000 in
theorem cloneI_ac (l : List Int) (hsz : l.length ≤ 1000000000) : AC Try.prog 58 [ints l] (.fresh 3 1 (l.map I)) := by
  refine AC.of_body Try.func58 rfl rfl Try.ntmps58 (congrArg Array.toList Try.results58) (by simp) (pures1 (pure_ints _)) (pureR_fresh_ints _ _) fun w S => AWp.of_vc [5] ?_
  simp [go_sem]
  refine ⟨?_, ?_⟩
  · refine ⟨⟨by omega, by omega⟩, ?_⟩
    refine PostR.ret ?_
    simp [go_sem]
  · rintro rfl
    refine PostR.retW [] (r0 := .v (.slice none 0 0)) ?_ (.fresh _ _)
    simp [go_sem]

/-- The elements in increasing order, each once, as the library makes them. -/
def sortedSet (l : List Int) : List Int := Lib.compact (l.mergeSort fun x y => decide (x ≤ y))

set_option maxRecDepth 4000 in
set_option maxHeartbeats 1000000 in
theorem numSorted_ac (l : List Int) (hsz : l.length ≤ 1000000000) : AC Try.prog 33 [ints l] (ints (sortedSet l)) := by
  refine AC.of_body Try.func33 rfl rfl Try.ntmps33 (congrArg Array.toList Try.results33) (by simp) (pures1 (pure_ints _)) (pureR_ints _) fun w S => AWp.of_vc [] ?_
  simp [go_sem]
  refine CallSem.pure (cloneI_ac l hsz) (by simp [go_sem]) ?_
  simp [go_sem]
  refine CallSem.sortInts (ρ := Try.laysSort_ren) (id := 5) (e := 3) (l := l) Try.laysSort ⟨_, Try.func59, rfl, rfl⟩ (by simp [go_sem]) (by simp [go_sem, Function.comp_def]; try rfl) (by simp [go_sem]) (by omega) ?_
  simp [go_sem]
  refine CallSem.compactInts (ρ := Try.laysCompact_ren) (id := 5) (e := 3) (l := l.mergeSort fun x y => decide (x ≤ y)) Try.laysCompact ⟨_, Try.func60, rfl, rfl⟩ (by simp [go_sem]) (by simp [go_sem]) (by simp [go_sem]) (compact_len _) ?_
  simp [go_sem]
  refine PostR.retW [5] ?_ (.refl _)
  simp [go_sem, sortedSet]


end Go.Proofs.Ytppgiipgppeenaa

-- part P1
namespace Go.Proofs.Ytppgiipgppeenaa
open Go Go.Abs Go.Lib

theorem compact_spec (l : List Int) (hs : l.Pairwise (· ≤ ·)) : ∀ m, m ≤ l.length → (compactUpTo l.toArray m).Pairwise (· < ·) ∧ ∀ x, x ∈ compactUpTo l.toArray m ↔ x ∈ l.take m
  | 0, _ => by simp [compactUpTo]
  | m + 1, hm => by
    obtain ⟨h1, h2⟩ := compact_spec l hs m (by omega)
    have hlt : m < l.length := by omega
    have hd : l.toArray[m]! = l[m] := by simp [hlt]
    have ht : l.take (m + 1) = l.take m ++ [l[m]] := List.take_succ_eq_append_getElem hlt
    rw [compactUpTo_succ, hd]
    have hle : ∀ x, x ∈ l.take m → x ≤ l[m] := by
      have := hs.sublist (List.take_sublist (m + 1) l)
      rw [ht] at this
      exact fun x hx => (List.pairwise_append.1 this).2.2 x hx _ (by simp)
    by_cases hk : keeps l.toArray m = true
    · rw [if_pos hk]
      refine ⟨List.pairwise_append.2 ⟨h1, by simp, fun x hx y hy => ?_⟩, fun x => ?_⟩
      · simp only [List.mem_singleton] at hy
        subst hy
        have hx' := (h2 x).1 hx
        have hne : x ≠ l[m] := by
          intro he
          simp only [keeps, decide_eq_true_eq] at hk
          rcases hk with h0 | h0
          · subst h0; simp at hx'
          · have hm0 : 0 < m := by
              rcases Nat.eq_zero_or_pos m with h | h
              · subst h; simp at hx'
              · exact h
            have hp : l.toArray[m - 1]! = l[m - 1] := by simp [show m - 1 < l.length from by omega]
            rw [hd, hp] at h0
            -- x is at some place before m, so x is at most the one before m
            obtain ⟨i, hi, hxi⟩ := List.mem_iff_getElem.1 hx'
            simp only [List.length_take] at hi
            simp only [List.getElem_take] at hxi
            have h3 : l[i] ≤ l[m - 1] := by
              by_cases h : i = m - 1
              · subst h; exact Int.le_refl _
              · exact List.pairwise_iff_getElem.1 hs i (m - 1) (by omega) (by omega) (by omega)
            have h4 : l[m - 1] ≤ l[m] := List.pairwise_iff_getElem.1 hs (m - 1) m (by omega) (by omega) (by omega)
            omega
        have := hle x hx'
        omega
      · rw [ht, List.mem_append, List.mem_append, h2]
    · rw [if_neg hk]
      refine ⟨by simpa using h1, fun x => ?_⟩
      have hk' : m ≠ 0 ∧ l.toArray[m]! = l.toArray[m - 1]! := by
        simp only [keeps, decide_eq_true_eq, not_or, Decidable.not_not] at hk
        exact hk
      have hp : l.toArray[m - 1]! = l[m - 1] := by simp [show m - 1 < l.length from by omega]
      have he : l[m] = l[m - 1] := by rw [hd, hp] at hk'; exact hk'.2
      rw [List.append_nil, h2, ht, List.mem_append, List.mem_singleton]
      constructor
      · exact .inl
      · rintro (h | rfl)
        · exact h
        · rw [he]
          have hm0 := hk'.1
          exact List.mem_iff_getElem.2 ⟨m - 1, by simp; omega, by simp⟩

theorem sortedSet_sorted (l : List Int) : (sortedSet l).Pairwise (· < ·) ∧ ∀ x, x ∈ sortedSet l ↔ x ∈ l := by
  have hs : (l.mergeSort fun x y => decide (x ≤ y)).Pairwise (· ≤ ·) := by
    have := List.pairwise_mergeSort (le := fun x y : Int => decide (x ≤ y)) (fun a b c h1 h2 => by simp only [decide_eq_true_eq] at *; omega) (fun a b => by simp only [Bool.or_eq_true, decide_eq_true_eq]; omega) l
    exact this.imp fun h => by simpa using h
  obtain ⟨h1, h2⟩ := compact_spec _ hs _ (Nat.le_refl _)
  refine ⟨h1, fun x => ?_⟩
  rw [show (x ∈ sortedSet l) = (x ∈ compactUpTo (l.mergeSort fun x y => decide (x ≤ y)).toArray (l.mergeSort fun x y => decide (x ≤ y)).length) from rfl, h2, List.take_length, List.mem_mergeSort]

theorem putL_spec (l : List Int) (n : Int) (hs : l.Pairwise (· < ·)) : (putL l n).Pairwise (· < ·) ∧ ∀ x, x ∈ putL l n ↔ x ∈ l ∨ x = n := by
  unfold putL
  by_cases hn : l.contains n = true
  · rw [if_pos hn]
    have hn' : n ∈ l := by simpa using hn
    exact ⟨hs, fun x => ⟨.inl, by rintro (h | rfl); exact h; exact hn'⟩⟩
  · rw [if_neg hn]
    have hn' : n ∉ l := by simpa using hn
    have hsplit : l.takeWhile (fun x => decide (x < n)) ++ l.dropWhile (fun x => decide (x < n)) = l := List.takeWhile_append_dropWhile
    have hs' := hs
    rw [← hsplit, List.pairwise_append] at hs'
    obtain ⟨g1, g2, g3⟩ := hs'
    have hlow : ∀ x ∈ l.takeWhile (fun x => decide (x < n)), x < n := fun x hx => by
      have : ∀ (m : List Int) x, x ∈ m.takeWhile (fun x => decide (x < n)) → x < n := by
        intro m
        induction m with
        | nil => intro x hx; simp at hx
        | cons y m ih =>
          intro x hx
          rw [List.takeWhile_cons] at hx
          split at hx
          · rename_i hy
            rcases List.mem_cons.1 hx with rfl | hx
            · simpa using hy
            · exact ih x hx
          · simp at hx
      exact this l x hx
    have hhigh : ∀ x ∈ l.dropWhile (fun x => decide (x < n)), n < x := fun x hx => by
      have : ∀ m : List Int, m.Pairwise (· < ·) → n ∉ m → ∀ x ∈ m.dropWhile (fun x => decide (x < n)), n < x := by
        intro m
        induction m with
        | nil => intro _ _ x hx; simp at hx
        | cons y m ih =>
          intro hp hnm x hx
          rw [List.dropWhile_cons] at hx
          rw [List.pairwise_cons] at hp
          simp only [List.mem_cons, not_or] at hnm
          split at hx
          · exact ih hp.2 hnm.2 x hx
          · rename_i hy
            simp only [decide_eq_true_eq] at hy
            rcases List.mem_cons.1 hx with rfl | hx
            · omega
            · have := hp.1 x hx; omega
      exact this l hs hn' x hx
    refine ⟨List.pairwise_append.2 ⟨g1, List.pairwise_cons.2 ⟨hhigh, g2⟩, fun x hx y hy => ?_⟩, fun x => ?_⟩
    · rcases List.mem_cons.1 hy with rfl | hy
      · exact hlow x hx
      · exact g3 x hx y hy
    · conv => rhs; rw [← hsplit]
      simp only [List.mem_append, List.mem_cons]
      constructor
      · rintro (h | h | h)
        · exact .inl (.inl h)
        · exact .inr h
        · exact .inl (.inr h)
      · rintro ((h | h) | h)
        · exact .inl h
        · exact .inr (.inr h)
        · exact .inr (.inl h)

theorem foldl_putL_spec (l : List Int) : ∀ a : List Int, a.Pairwise (· < ·) → (l.foldl putL a).Pairwise (· < ·) ∧ ∀ x, x ∈ l.foldl putL a ↔ x ∈ a ∨ x ∈ l := by
  induction l with
  | nil => intro a ha; simp [ha]
  | cons y l ih =>
    intro a ha
    obtain ⟨h1, h2⟩ := putL_spec a y ha
    obtain ⟨h3, h4⟩ := ih _ h1
    refine ⟨h3, fun x => ?_⟩
    rw [List.foldl_cons, h4, h2, List.mem_cons]
    constructor
    · rintro ((h | h) | h)
      · exact .inl h
      · exact .inr (.inl h)
      · exact .inr (.inr h)
    · rintro (h | h | h)
      · exact .inl (.inl h)
      · exact .inl (.inr h)
      · exact .inr h
theorem sortedL_sorted (l : List Int) : (sortedL l).Pairwise (· < ·) ∧ ∀ x, x ∈ sortedL l ↔ x ∈ l := by
  obtain ⟨h1, h2⟩ := foldl_putL_spec l [] (by simp)
  exact ⟨h1, fun x => by rw [show sortedL l = l.foldl putL [] from rfl, h2]; simp⟩

/-- Two increasing lists with the same members are one. -/
theorem strict_ext : ∀ {a b : List Int}, a.Pairwise (· < ·) → b.Pairwise (· < ·) → (∀ x, x ∈ a ↔ x ∈ b) → a = b
  | [], [], _, _, _ => rfl
  | [], y :: b, _, _, h => by have := (h y).2 (by simp); simp at this
  | x :: a, [], _, _, h => by have := (h x).1 (by simp); simp at this
  | x :: a, y :: b, ha, hb, h => by
    rw [List.pairwise_cons] at ha hb
    have hxy : x = y := by
      rcases List.mem_cons.1 ((h x).1 (by simp)) with h1 | h1
      · exact h1
      · rcases List.mem_cons.1 ((h y).2 (by simp)) with h2 | h2
        · exact h2.symm
        · have := hb.1 x h1; have := ha.1 y h2; omega
    subst hxy
    congr 1
    refine strict_ext ha.2 hb.2 fun z => ⟨fun hz => ?_, fun hz => ?_⟩
    · rcases List.mem_cons.1 ((h z).1 (by simp [hz])) with h1 | h1
      · have := ha.1 z hz; omega
      · exact h1
    · rcases List.mem_cons.1 ((h z).2 (by simp [hz])) with h1 | h1
      · have := hb.1 z hz; omega
      · exact h1
theorem sortedSet_eq (l : List Int) : sortedSet l = sortedL l :=
  strict_ext (sortedSet_sorted l).1 (sortedL_sorted l).1 fun x => by rw [(sortedSet_sorted l).2, (sortedL_sorted l).2]
end Go.Proofs.Ytppgiipgppeenaa

-- part N1
namespace Go.Proofs.Ytppgiipgppeenaa
open Go Go.Abs
set_option linter.unusedSimpArgs false
theorem wrapOf {n : Int} (h1 : -9223372036854775808 ≤ n) (h2 : n ≤ 9223372036854775807) : IntKind.i64.wrap n = n := wrap_i64 h1 h2
theorem wrap_natN {k : Nat} (hm : k ≤ maxLen) : IntKind.i64.wrap (k : Int) = (k : Int) := wrap_i64 (by omega) (by unfold maxLen at hm; omega)
def clipOf (n lo hi : Int) : Int := if hi < lo then lo else if n < lo then lo else if hi < n then hi else n


def boundOf (n : Int) : Int := clipOf n (-1000000000000) 1000000000000
theorem bound_in (n : Int) : -1000000000000 ≤ boundOf n ∧ boundOf n ≤ 1000000000000 := by
  unfold boundOf clipOf
  split
  · omega
  · split
    · omega
    · split <;> omega
def addOf (a b : Int) : Int := boundOf (boundOf a + boundOf b)
theorem add_wrap (a b : Int) : IntKind.i64.wrap (boundOf a + boundOf b) = boundOf a + boundOf b := by
  have h1 := bound_in a
  have h2 := bound_in b
  exact wrapOf (by omega) (by omega)



theorem add_comm' (a b : Int) : addOf a b = addOf b a := by unfold addOf; rw [Int.add_comm]
/-- The greatest of a number and a list. -/
def maxF (m : Int) (l : List Int) : Int := l.foldl (fun a b => if a < b then b else a) m
def maxOf : List Int → Option Int
  | [] => none
  | x :: l => some (maxF x l)
theorem maxF_snoc (m : Int) (l : List Int) (x : Int) : maxF m (l ++ [x]) = if maxF m l < x then x else maxF m l := by
  unfold maxF
  rw [List.foldl_append]; rfl
theorem maxF_mem : ∀ (l : List Int) (m : Int), (maxF m l = m ∨ maxF m l ∈ l) ∧ m ≤ maxF m l ∧ ∀ x ∈ l, x ≤ maxF m l
  | [], m => ⟨.inl rfl, Int.le_refl _, fun x hx => by cases hx⟩
  | y :: l, m => by
    obtain ⟨h1, h2, h3⟩ := maxF_mem l (if m < y then y else m)
    have hE : maxF m (y :: l) = maxF (if m < y then y else m) l := rfl
    rw [hE]
    refine ⟨?_, ?_, fun x hx => ?_⟩
    · rcases h1 with h1 | h1
      · rw [h1]
        split
        · exact .inr (List.mem_cons_self ..)
        · exact .inl rfl
      · exact .inr (List.mem_cons_of_mem _ h1)
    · refine Int.le_trans ?_ h2
      split <;> omega
    · rcases List.mem_cons.1 hx with rfl | hx
      · refine Int.le_trans ?_ h2
        split <;> omega
      · exact h3 x hx
def optN (o : Option Int) : AV := .tup [I (o.getD 0), B o.isSome]
theorem pureR_optN (o : Option Int) : PureR (optN o) := by
  intro r hr
  simp only [List.mem_cons, List.not_mem_nil, or_false] at hr
  rcases hr with rfl | rfl
  · exact pure_I _
  · exact pure_B _
attribute [go_sem] optN


end Go.Proofs.Ytppgiipgppeenaa

-- part N2
namespace Go.Proofs.Ytppgiipgppeenaa
open Go Go.Abs
set_option linter.unusedSimpArgs false
theorem below_stepN {α : Type} {l : List α} {P : α → Prop} {k : Nat} (hk : k < l.length) (h : ∀ (j : Nat) x, j < k → l[j]? = some x → P x) (hp : P l[k]) : ∀ (j : Nat) x, j < k + 1 → l[j]? = some x → P x := by
  intro j x hj hx
  rcases Nat.lt_succ_iff_lt_or_eq.1 hj with hj | rfl
  · exact h j x hj hx
  · rw [List.getElem?_eq_getElem hk] at hx; cases hx; exact hp
theorem takeWhile_lenN {α : Type} (p : α → Bool) : ∀ (l : List α) (k : Nat), k ≤ l.length → (∀ (j : Nat) x, j < k → l[j]? = some x → p x = true) → (∀ x, l[k]? = some x → p x = false) → (l.takeWhile p).length = k
  | [], k, hk, _, _ => by simp at hk; simp [hk]
  | x :: l, 0, _, _, h2 => by simp [List.takeWhile_cons, h2 x rfl]
  | x :: l, k + 1, hk, h1, h2 => by
    rw [List.takeWhile_cons, h1 0 x (by omega) rfl]
    simp only [if_true, List.length_cons]
    rw [takeWhile_lenN p l k (by simpa using hk) (fun j y hj hy => h1 (j + 1) y (by omega) (by simpa using hy)) (fun y hy => h2 y (by simpa using hy))]
def hasI (l : List Int) (n : Int) : Bool := l.contains n
theorem hasI_iff {l : List Int} {n : Int} : hasI l n = true ↔ n ∈ l := by unfold hasI; simp
theorem wrap_u64 {n : Int} (h1 : 0 ≤ n) (h2 : n < 18446744073709551616) : IntKind.u64.wrap n = n := by
  simp [IntKind.wrap, IntKind.bits, IntKind.signed]; omega
theorem wrap_u8 {n : Int} (h1 : 0 ≤ n) (h2 : n < 256) : IntKind.u8.wrap n = n := by
  simp [IntKind.wrap, IntKind.bits, IntKind.signed]; omega
def minusOf (a b : List Int) : List Int := (sortedL a).filter fun n => !hasI b n
theorem filter_takeN {α : Type} (p : α → Bool) (l : List α) (k : Nat) (h : k < l.length) : (l.take (k + 1)).filter p = if p l[k] = true then (l.take k).filter p ++ [l[k]] else (l.take k).filter p := by
  rw [List.take_succ_eq_append_getElem h, List.filter_append]
  split
  · rename_i hp; simp [hp]
  · rename_i hp; simp [hp]
theorem sortedL_lenN (a : List Int) : (sortedL a).length ≤ a.length := by
  have := foldl_putL_len a []
  simp only [List.length_nil] at this
  unfold sortedL; omega
theorem hasI_sorted (b : List Int) (n : Int) : hasI (sortedL b) n = hasI b n := by
  apply Bool.eq_iff_iff.2
  rw [hasI_iff, hasI_iff]
  exact (sortedL_sorted b).2 n

set_option maxRecDepth 8000 in
set_option maxHeartbeats 4000000 in
theorem rminus_ac (a b : List Int) (ha : a.length ≤ 100000) : AC Try.prog 22 [ints a, ints b] (ints (minusOf a b)) := by
  refine AC.of_body Try.func22 rfl rfl Try.ntmps22 (congrArg Array.toList Try.results22) (by simp) (pures2 (pure_ints _) (pure_ints _)) (pureR_ints _) fun w S' => AWp.of_vc [10] ?_
  have hal := sortedL_lenN a
  unfold minusOf
  simp [go_sem]
  refine CallSem.pure (sorted_ac a (by omega)) (by simp [go_sem]) ?_
  generalize sortedL a = A at hal ⊢
  have hm : A.length ≤ maxLen := by unfold maxLen; omega
  simp [go_sem]
  refine AWp.loop_vc [] (fun m s => ∃ q v : Nat, q ≤ A.length ∧ m = A.length - q ∧ s.σ 1 = ints b ∧ s.σ 5 = ints A ∧ s.σ 7 = I q ∧ s.σ 6 = .ref 10 v ∧ s.ver 10 = v ∧ s.h 10 = .arr 3 1 (((A.take q).filter fun n => !hasI b n).map I)) A.length ⟨0, 1, by simp [go_sem]⟩ ?_
  rintro m s ⟨q, v, hq, rfl, h1, h5, h7, h6, hv6, hh6⟩
  by_cases hlt : q < A.length
  · have hsu := filter_takeN (fun n => !hasI b n) A q hlt
    have hfl : ((A.take q).filter fun n => !hasI b n).length ≤ q := by
      have := List.length_filter_le (fun n => !hasI b n) (A.take q)
      rw [List.length_take] at this; omega
    generalize (A.take q).filter (fun n => !hasI b n) = X at hh6 hsu hfl
    simp [go_sem, h1, h5, h7, h6, hv6, hh6, hlt]
    refine CallSem.pure (r := B (hasI b A[q])) (has_ac b A[q]) (by simp [go_sem]) ?_
    cases hg : hasI b A[q] with
    | true =>
      rw [hg] at hsu
      simp [go_sem, h1, h5, h7, h6, hv6, hh6, hlt, wrap_succ hlt hm]
      exact ⟨A.length - (q + 1), by omega, q + 1, by omega, rfl, rfl, by rw [hsu]; simp⟩
    | false =>
      rw [hg] at hsu
      simp [go_sem, h1, h5, h7, h6, hv6, hh6, hlt, wrap_succ hlt hm]
      exact ⟨⟨by omega, by omega⟩, A.length - (q + 1), by omega, q + 1, by omega, rfl, rfl, by rw [hsu]; simp [I]⟩
  · rw [List.take_of_length_le (by omega)] at hh6
    simp [go_sem, h1, h5, h7, h6, hv6, hh6, hlt]
    refine PostR.retW [10] ?_ (.refl _)
    simp [go_sem, h6, hv6, hh6]

theorem sortedL_append (a b : List Int) : sortedL (a ++ b) = b.foldl putL (sortedL a) := by unfold sortedL; rw [List.foldl_append]
theorem foldl_take {α β : Type} (f : β → α → β) (l : List α) (b : β) (k : Nat) (h : k < l.length) : (l.take (k + 1)).foldl f b = f ((l.take k).foldl f b) l[k] := by
  rw [List.take_succ_eq_append_getElem h, List.foldl_append]; rfl
set_option maxRecDepth 8000 in
set_option maxHeartbeats 4000000 in
theorem runion_ac (a b : List Int) (ha : a.length ≤ 100000) (hb : b.length ≤ 100000) : AC Try.prog 71 [ints a, ints b] (ints (sortedL (a ++ b))) := by
  refine AC.of_body Try.func71 rfl rfl Try.ntmps71 (congrArg Array.toList Try.results71) (by simp) (pures2 (pure_ints _) (pure_ints _)) (pureR_ints _) fun w S' => AWp.of_vc [] ?_
  have hal := sortedL_lenN a
  have hm : b.length ≤ maxLen := by unfold maxLen; omega
  rw [sortedL_append]
  simp [go_sem]
  refine CallSem.pure (sorted_ac a (by omega)) (by simp [go_sem]) ?_
  generalize sortedL a = A at hal ⊢
  simp [go_sem]
  refine AWp.loop_vc [] (fun m s => ∃ q : Nat, q ≤ b.length ∧ m = b.length - q ∧ s.σ 1 = ints b ∧ s.σ 6 = I q ∧ s.σ 5 = ints ((b.take q).foldl putL A)) b.length ⟨0, by simp [go_sem]⟩ ?_
  rintro m s ⟨q, hq, rfl, h1, h6, h5⟩
  by_cases hlt : q < b.length
  · have hst := foldl_take putL b A q hlt
    have hln := foldl_putL_len (b.take q) A
    rw [List.length_take] at hln
    generalize (b.take q).foldl putL A = X at h5 hst hln
    simp [go_sem, h1, h5, h6, hlt]
    refine CallSem.pure (put_ac X b[q] (by omega)) (by simp [go_sem]) ?_
    simp [go_sem, h1, h5, h6, hlt, wrap_succ hlt hm]
    exact ⟨b.length - (q + 1), by omega, q + 1, by omega, rfl, rfl, by rw [hst]⟩
  · rw [List.take_of_length_le (by omega)] at h5
    simp [go_sem, h1, h5, h6, hlt]
    refine PostR.ret ?_
    simp [go_sem]

end Go.Proofs.Ytppgiipgppeenaa

-- part E2
namespace Go.Proofs.Ytppgiipgppeenaa
open Go Go.Abs
set_option linter.unusedSimpArgs false
def lvs (x : Levels) : AV := .agg (lvsc x)
def ct (x : Content) : AV := .agg (ctc x)
theorem pure_lvsc (x : Levels) : ∀ c ∈ lvsc x, Pure c := by
  intro c hc
  simp only [lvsc, List.mem_cons, List.not_mem_nil, or_false] at hc
  rcases hc with rfl | rfl | rfl | rfl | rfl | rfl | rfl | rfl | rfl <;> first | exact pure_v _ | exact pure_lst_agg pure_lvc | exact pure_lst_agg pure_klc
theorem pure_lvs (x : Levels) : Pure (lvs x) := pure_agg (pure_lvsc x)
theorem pure_ctc (x : Content) : ∀ c ∈ ctc x, Pure c := by
  intro c hc
  simp only [ctc, List.mem_cons, List.not_mem_nil, or_false] at hc
  rcases hc with rfl | rfl | rfl | rfl | rfl | rfl | rfl | rfl | rfl | rfl | rfl | rfl | rfl | rfl | rfl | rfl <;> first | exact pure_v _ | exact pure_strs _ | exact pure_lst_agg pure_lvc | exact pure_lst_agg pure_klc
theorem pure_ct (x : Content) : Pure (ct x) := pure_agg (pure_ctc x)
theorem evc_ct (x : Evt) : ((evc x).drop 10).take 16 = ctc x.content := rfl
attribute [go_sem] evc_ct lvs ct lvsc ctc lvc klc
theorem strs_len' (l : List Bytes) : (l.map S).length = l.length := by simp
theorem AWp.boundCell {G : Ctx} {st : St} {c : Code} {Q : Exit → St → Prop} (d i : Nat) {cs : List AV} {j sz : Nat} {xs : List AV} (hd : st.σ d = .eptr cs j) (hc : cs[i]? = some (.lst sz xs)) (h : xs.length ≤ maxLen → AWp G c Q st) : AWp G c Q st := fun E a hr => by
  have := hr.slots d
  rw [hd] at this
  generalize a.tmps.getD d undef = x at this
  cases this with
  | eptr _ _ b off u hS h1 h2 => exact h (h2 i _ hc).lst_len E a hr
theorem AWp.boundAgg {G : Ctx} {st : St} {c : Code} {Q : Exit → St → Prop} (d i : Nat) {cs : List AV} {sz : Nat} {xs : List AV} (hd : st.σ d = .agg cs) (hc : cs[i]? = some (.lst sz xs)) (h : xs.length ≤ maxLen → AWp G c Q st) : AWp G c Q st := fun E a hr => by
  have := hr.slots d
  rw [hd] at this
  generalize a.tmps.getD d undef = x at this
  cases this with
  | agg _ us hl h1 => exact h (h1 i _ hc).lst_len E a hr
end Go.Proofs.Ytppgiipgppeenaa

-- part S1
namespace Go.Proofs.Ytppgiipgppeenaa
open Go Go.Abs
set_option linter.unusedSimpArgs false

theorem pureR_tup2 {a b : AV} (h : Pure a) (k : Pure b) (ha : PureR1 a) (hb : PureR1 b) : PureR (.tup [a, b]) := by
  intro r hr
  simp only [List.mem_cons, List.not_mem_nil, or_false] at hr
  rcases hr with rfl | rfl
  · exact ha
  · exact hb
theorem pureR_IB (n : Int) (b : Bool) : PureR (.tup [I n, B b]) := pureR_tup2 (pure_I _) (pure_B _) (pure_I _) (pure_B _)

set_option maxRecDepth 8000 in
set_option maxHeartbeats 4000000 in
theorem prec_ac (a b : EntD) : AC Try.prog 102 [ent a, ent b] (B (prec a b)) := by
  refine AC.of_body Try.func102 rfl rfl Try.ntmps102 (congrArg Array.toList Try.results102) (by simp) (pures2 (pure_ent _) (pure_ent _)) (pure_B _) fun w S' => AWp.of_vc [] ?_
  by_cases h1 : a.kind < b.kind
  · simp [go_sem, h1]
    refine PostR.ret ?_
    simp [go_sem, prec, h1]
  · by_cases h2 : a.kind = b.kind
    · simp [go_sem, h1, h2]
      refine PostR.ret ?_
      simp [go_sem, prec, h1, h2]
    · simp [go_sem, h1, h2]
      refine PostR.ret ?_
      simp [go_sem, prec, h1, h2]


def isSt (k : Int) : Bool := decide (1 ≤ k) && decide (k ≤ 10)


theorem pure_box (x : EntD) : Pure (.eptr (enc x) 0) := pure_eptr (pure_enc x)
set_option maxRecDepth 8000 in
set_option maxHeartbeats 4000000 in
theorem find1_ac (e x : EntD) : AC Try.prog 101 [ent e, .eptr (enc x) 0] (B (prec e x)) := by
  refine AC.of_body Try.func101 rfl rfl Try.ntmps101 (congrArg Array.toList Try.results101) (by simp) (pures2 (pure_ent _) (pure_box _)) (pure_B _) fun w S' => AWp.of_vc [] ?_
  simp [go_sem]
  refine CallSem.pure (prec_ac e x) (by simp [go_sem]) ?_
  simp [go_sem]
  refine PostR.ret ?_
  simp [go_sem]

set_option maxRecDepth 8000 in
set_option maxHeartbeats 4000000 in
theorem find2_ac (e x : EntD) : AC Try.prog 103 [ent e, .eptr (enc x) 0] (B (!prec x e)) := by
  refine AC.of_body Try.func103 rfl rfl Try.ntmps103 (congrArg Array.toList Try.results103) (by simp) (pures2 (pure_ent _) (pure_box _)) (pure_B _) fun w S' => AWp.of_vc [] ?_
  simp [go_sem]
  refine CallSem.pure (prec_ac x e) (by simp [go_sem]) ?_
  simp [go_sem]
  refine PostR.ret ?_
  simp [go_sem]

/-- The place of an entry, and whether it is there. -/
def fidx (s : List EntD) (x : EntD) : Nat := (s.takeWhile fun e => prec e x).length
def fok (s : List EntD) (x : EntD) : Bool := (s[fidx s x]?).elim false fun e => !prec x e
theorem takeWhile_len {α : Type} (p : α → Bool) : ∀ (l : List α) (k : Nat), k ≤ l.length → (∀ (j : Nat) x, j < k → l[j]? = some x → p x = true) → (∀ x, l[k]? = some x → p x = false) → (l.takeWhile p).length = k
  | [], k, hk, _, _ => by simp at hk; simp [hk]
  | x :: l, 0, _, _, h2 => by simp [List.takeWhile_cons, h2 x rfl]
  | x :: l, k + 1, hk, h1, h2 => by
    have hx := h1 0 x (by omega) rfl
    simp only [List.takeWhile_cons, hx, if_true, List.length_cons]
    rw [takeWhile_len p l k (by simpa using hk) (fun j y hj hy => h1 (j + 1) y (by omega) (by simpa using hy)) (fun y hy => h2 y (by simpa using hy))]
theorem fidx_le (s : List EntD) (x : EntD) : fidx s x ≤ s.length := by
  unfold fidx
  have h := congrArg List.length (List.takeWhile_append_dropWhile (p := fun e : EntD => prec e x) (l := s))
  simp only [List.length_append] at h
  omega
theorem fok_lt {s : List EntD} {x : EntD} (h : fok s x = true) : fidx s x < s.length := by
  unfold fok at h
  cases he : s[fidx s x]? with
  | none => rw [he] at h; cases h
  | some e => exact (List.getElem?_eq_some_iff.1 he).1
def fnAV (f : FuncId) (x : EntD) : AV := .fn (.func f) [] [.eptr (enc x) 0]
theorem pure_fnAV (f : FuncId) (x : EntD) : Pure (fnAV f x) := pure_fn (fun c h => by cases h) fun c h => by simp only [List.mem_singleton] at h; subst h; exact pure_box x
attribute [go_sem] fnAV
set_option maxRecDepth 8000 in
set_option maxHeartbeats 4000000 in
theorem placeG_ac (s : List EntD) (x : EntD) : AC Try.prog 100 [ents s, fnAV 101 x, fnAV 103 x] (.tup [I (fidx s x), B (fok s x)]) := by
  refine AC.of_body Try.func100 rfl rfl Try.ntmps100 (congrArg Array.toList Try.results100) (by simp) (pures3 (pure_ents _) (pure_fnAV _ _) (pure_fnAV _ _)) (pureR_IB _ _) fun w S' => AWp.bound 0 rfl fun hlen => AWp.of_vc [] ?_
  rw [ents_len] at hlen
  simp [go_sem]
  refine AWp.loop_vc [] (fun m s' => ∃ k : Nat, k ≤ s.length ∧ m = s.length - k ∧ s'.σ 0 = ents s ∧ s'.σ 1 = fnAV 101 x ∧ s'.σ 2 = fnAV 103 x ∧ s'.σ 8 = I k ∧ ∀ (j : Nat) e, j < k → s[j]? = some e → prec e x = true) s.length ⟨0, by simp [go_sem]⟩ ?_
  rintro m s' ⟨k, hk, rfl, h0, h1, h2, h8, hno⟩
  have fin : (∀ e, s[k]? = some e → prec e x = false) → fidx s x = k := fun h => takeWhile_len _ s k hk hno h
  by_cases hlt : k < s.length
  · simp [go_sem, h0, h1, h2, h8, hlt]
    refine CallSem.pure (find1_ac s[k] x) (by simp [go_sem]) ?_
    cases hp : prec s[k] x with
    | true =>
      simp [go_sem, h0, h1, h2, h8, hlt]
      refine ⟨s.length - (k + 1), by omega, k + 1, by omega, rfl, by rw [wrap_succ hlt hlen]; rfl, ?_⟩
      intro j e hj he
      rcases Nat.lt_succ_iff_lt_or_eq.1 hj with hj | rfl
      · exact hno j e hj he
      · rw [List.getElem?_eq_getElem hlt] at he; cases he; exact hp
    | false =>
      have hf : fidx s x = k := fin fun e he => by rw [List.getElem?_eq_getElem hlt] at he; cases he; exact hp
      simp [go_sem, h0, h1, h2, h8, hlt]
      refine CallSem.pure (find2_ac s[k] x) (by simp [go_sem]) ?_
      simp [go_sem, h0, h1, h2, h8, hlt]
      refine PostR.ret ?_
      simp [go_sem, hf, fok, hlt]
  · have hf : fidx s x = k := fin fun e he => by rw [List.getElem?_eq_none (by omega)] at he; cases he
    have hk' : k = s.length := by omega
    simp [go_sem, h0, h1, h2, h8, hlt]
    refine PostR.ret ?_
    simp [go_sem, hf, fok, hk']

set_option maxRecDepth 8000 in
set_option maxHeartbeats 4000000 in
theorem find_ac (s : List EntD) (k : Int) (key : Bytes) : AC Try.prog 98 [ents s, I k, S key] (.tup [I (fidx s ⟨k, key, 0⟩), B (fok s ⟨k, key, 0⟩)]) := by
  refine AC.of_body Try.func98 rfl rfl Try.ntmps98 (congrArg Array.toList Try.results98) (by simp) (pures3 (pure_ents _) (pure_I _) (pure_S _)) (pureR_IB _ _) fun w S' => AWp.of_vc [] ?_
  simp [go_sem]
  refine CallSem.freeze 8 ?_
  simp [go_sem]
  refine CallSem.pure (placeG_ac s ⟨k, key, 0⟩) (by simp [go_sem]) ?_
  simp [go_sem]
  refine PostR.ret ?_
  simp [go_sem]

def getOf (s : List EntD) (k : Int) (key : Bytes) : Option Int := if fok s ⟨k, key, 0⟩ = true then (s[fidx s ⟨k, key, 0⟩]?).map (·.id) else none
def optAV (o : Option Int) : AV := .tup [I (o.getD 0), B o.isSome]
theorem pureR_opt (o : Option Int) : PureR (optAV o) := pureR_IB _ _
attribute [go_sem] optAV

def isKey (k : Int) (key : Bytes) (e : EntD) : Bool := e.kind == k && e.key == key
theorem isKey_iff {k : Int} {key : Bytes} {e : EntD} : isKey k key e = true ↔ e.kind = k ∧ e.key = key := by simp [isKey]
def rgetOf (s : List EntD) (k : Int) (key : Bytes) : Option Int := (s.find? (isKey k key)).map (·.id)

end Go.Proofs.Ytppgiipgppeenaa

-- part S2
namespace Go.Proofs.Ytppgiipgppeenaa
open Go Go.Abs
set_option linter.unusedSimpArgs false

/-- The same memory below 20000, but for one number. -/
def Agree (R : Nat) (s1 s2 : St) : Prop := ∀ id, id < 20000 → id ≠ R → s2.ver id = s1.ver id ∧ s2.h id = s1.h id
/-- What a round must come to. -/
def EachPost (R V : Nat) (r : Loop) (st : St) (Inv : St → Prop) (Q : Exit → St → Prop) : Exit → St → Prop
  | .normal, s => (s.ver R = V ∧ s.h R = recB r .busy none) ∧ Inv (st.mem s)
  | .ret, s => (s.ver R = V ∧ s.h R = recB r .busy none) ∧ Q .ret (st.mem (s.setH R .none))
  | .exit id, s => (s.ver R = V ∧ s.h R = recB r .busy none) ∧ Q (.exit id) (st.mem (s.setH R .none))
  | _, _ => False
theorem w_ep_normal (R V : Nat) (r : Loop) (st : St) (Inv : St → Prop) (Q : Exit → St → Prop) (s : St) : EachPost R V r st Inv Q .normal s = ((s.ver R = V ∧ s.h R = recB r .busy none) ∧ Inv (st.mem s)) := nrfl _
theorem w_ep_ret (R V : Nat) (r : Loop) (st : St) (Inv : St → Prop) (Q : Exit → St → Prop) (s : St) : EachPost R V r st Inv Q .ret s = ((s.ver R = V ∧ s.h R = recB r .busy none) ∧ Q .ret (st.mem (s.setH R .none))) := nrfl _
theorem w_ep_exit (R V : Nat) (r : Loop) (st : St) (Inv : St → Prop) (Q : Exit → St → Prop) (s : St) (id : Nat) : EachPost R V r st Inv Q (.exit id) s = ((s.ver R = V ∧ s.h R = recB r .busy none) ∧ Q (.exit id) (st.mem (s.setH R .none))) := nrfl _
attribute [go_sem ↓] w_ep_normal w_ep_ret w_ep_exit

theorem mem_set {R : Nat} (st si s : St) (b : Blk) (d d' : Nat) (x x' : AV) : st.mem ((((si.mem (s.setH R b)).put (some d) x).put (some d') x').setH R .none) = st.mem (s.setH R .none) := by
  simp only [St.mem, St.setH, St.put]
  congr 1
  funext j
  by_cases h : j = R <;> simp [upd, h]

end Go.Proofs.Ytppgiipgppeenaa

-- part S3
namespace Go.Proofs.Ytppgiipgppeenaa
open Go Go.Abs
set_option linter.unusedSimpArgs false

def diffOf (a b : List EntD) : List EntD := b.filter fun e => getOf a e.kind e.key != some e.id
theorem filter_take {α : Type} (p : α → Bool) (l : List α) (k : Nat) (h : k < l.length) : (l.take (k + 1)).filter p = if p l[k] = true then (l.take k).filter p ++ [l[k]] else (l.take k).filter p := by
  rw [List.take_succ_eq_append_getElem h, List.filter_append]
  split
  · rename_i hp; simp [hp]
  · rename_i hp; simp [hp]

end Go.Proofs.Ytppgiipgppeenaa

-- part S4
namespace Go.Proofs.Ytppgiipgppeenaa
open Go Go.Abs
set_option linter.unusedSimpArgs false
theorem wrap_nat {k : Nat} (hm : k ≤ maxLen) : IntKind.i64.wrap (k : Int) = (k : Int) := wrap_i64 (by omega) (by unfold maxLen at hm; omega)

def adj : List EntD → Bool
  | a :: b :: l => prec a b && adj (b :: l)
  | _ => true
theorem adj_get : ∀ {l : List EntD}, adj l = true → ∀ (i : Nat) a b, l[i]? = some a → l[i + 1]? = some b → prec a b = true
  | [], _, i, a, b, h, _ => by simp at h
  | [x], _, i, a, b, h, k => by simp at k
  | x :: y :: l, hs, 0, a, b, h, k => by
    simp at h k; subst h; subst k
    simp only [adj, Bool.and_eq_true] at hs; exact hs.1
  | x :: y :: l, hs, i + 1, a, b, h, k => by
    simp only [adj, Bool.and_eq_true] at hs
    exact adj_get hs.2 i a b (by simpa using h) (by simpa using k)
theorem adj_of : ∀ {l : List EntD}, (∀ (i : Nat) a b, l[i]? = some a → l[i + 1]? = some b → prec a b = true) → adj l = true
  | [], _ => rfl
  | [x], _ => rfl
  | x :: y :: l, h => by
    simp only [adj, Bool.and_eq_true]
    exact ⟨h 0 x y rfl rfl, adj_of fun i a b h1 h2 => h (i + 1) a b (by simpa using h1) (by simpa using h2)⟩
def goodE (e : EntD) : Bool := isSt e.kind && decide (0 ≤ e.id)
def checkOf (s : List EntD) : Int := if adj s = false then 8 else if s.all goodE = false then 1 else if 2000 < s.length then 7 else 0
theorem adj_false {s : List EntD} {q : Nat} (h : q + 1 < s.length) (hp : prec s[q] s[q + 1] = false) : adj s = false := by
  cases ha : adj s with
  | false => rfl
  | true =>
    have := adj_get ha q _ _ (List.getElem?_eq_getElem (by omega)) (List.getElem?_eq_getElem h)
    rw [hp] at this; cases this
theorem all_false {α : Type} {p : α → Bool} {l : List α} {k : Nat} (h : k < l.length) (hp : p l[k] = false) : l.all p = false := by
  cases ha : l.all p with
  | false => rfl
  | true => rw [List.all_eq_true] at ha; have := ha _ (List.getElem_mem h); rw [hp] at this; cases this
theorem all_true {α : Type} {p : α → Bool} {l : List α} (h : ∀ (j : Nat) x, l[j]? = some x → p x = true) : l.all p = true := by
  rw [List.all_eq_true]
  intro x hx
  obtain ⟨j, hj⟩ := List.mem_iff_getElem?.1 hx
  exact h j x hj
theorem below_step {α : Type} {l : List α} {P : α → Prop} {k : Nat} (hk : k < l.length) (h : ∀ (j : Nat) x, j < k → l[j]? = some x → P x) (hp : P l[k]) : ∀ (j : Nat) x, j < k + 1 → l[j]? = some x → P x := by
  intro j x hj hx
  rcases Nat.lt_succ_iff_lt_or_eq.1 hj with hj | rfl
  · exact h j x hj hx
  · rw [List.getElem?_eq_getElem hk] at hx; cases hx; exact hp
theorem adj_step {l : List EntD} {q : Nat} (hk : q + 1 < l.length) (h : ∀ (i : Nat) a b, i < q → l[i]? = some a → l[i + 1]? = some b → prec a b = true) (hp : prec l[q] l[q + 1] = true) : ∀ (i : Nat) a b, i < q + 1 → l[i]? = some a → l[i + 1]? = some b → prec a b = true := by
  intro i a b hi ha hb
  rcases Nat.lt_succ_iff_lt_or_eq.1 hi with hi | rfl
  · exact h i a b hi ha hb
  · rw [List.getElem?_eq_getElem (by omega)] at ha; rw [List.getElem?_eq_getElem hk] at hb; cases ha; cases hb; exact hp

end Go.Proofs.Ytppgiipgppeenaa

-- part S5
namespace Go.Proofs.Ytppgiipgppeenaa
open Go Go.Abs
set_option linter.unusedSimpArgs false
def setOf (s : List EntD) (k : Int) (key : Bytes) (id : Int) : List EntD :=
  s.take (fidx s ⟨k, key, 0⟩) ++ ⟨k, key, id⟩ :: s.drop (if fok s ⟨k, key, 0⟩ = true then fidx s ⟨k, key, 0⟩ + 1 else fidx s ⟨k, key, 0⟩)
theorem takeWhile_at {α : Type} (p : α → Bool) : ∀ (l : List α) (e : α), l[(l.takeWhile p).length]? = some e → p e = false
  | [], e, h => by simp at h
  | x :: l, e, h => by
    by_cases hx : p x = true
    · simp only [List.takeWhile_cons, hx, if_true, List.length_cons, List.getElem?_cons_succ] at h
      exact takeWhile_at p l e h
    · simp only [List.takeWhile_cons, hx, Bool.false_eq_true, if_false, List.length_nil, List.getElem?_cons_zero, Option.some.injEq] at h
      subst h; simpa using hx
theorem fidx_at {s : List EntD} {x : EntD} (h : fidx s x < s.length) : prec s[fidx s x] x = false := by
  unfold fidx at h ⊢
  exact takeWhile_at (fun e : EntD => prec e x) s _ (List.getElem?_eq_getElem h)
theorem fok_iff {s : List EntD} {x : EntD} (h : fidx s x < s.length) : fok s x = true ↔ s[fidx s x].kind = x.kind ∧ s[fidx s x].key = x.key := by
  have h1 := fidx_at h
  unfold fok
  rw [List.getElem?_eq_getElem h]
  simp only [Option.elim_some, Bool.not_eq_true']
  constructor
  · exact fun h2 => prec_total _ _ h1 h2
  · rintro ⟨e1, e2⟩
    simp [prec, e1, e2, bl_irrefl]
theorem fok_out {s : List EntD} {x : EntD} (h : ¬ fidx s x < s.length) : fok s x = false := by
  cases hf : fok s x with
  | false => rfl
  | true => exact (h (fok_lt hf)).elim

set_option maxRecDepth 8000 in
set_option maxHeartbeats 4000000 in
theorem set_ac (s : List EntD) (k : Int) (key : Bytes) (id : Int) (hsz : s.length ≤ 100000) : AC Try.prog 91 [ents s, I k, S key, I id] (ents (setOf s k key id)) := by
  refine AC.of_body Try.func91 rfl rfl Try.ntmps91 (congrArg Array.toList Try.results91) (by simp) (pures4 (pure_ents _) (pure_I _) (pure_S _) (pure_I _)) (pureR_ents _) fun w S' => AWp.of_vc [19] ?_
  simp [go_sem]
  refine CallSem.pure (find_ac s k key) (by simp [go_sem]) ?_
  have hle := fidx_le s ⟨k, key, 0⟩
  cases hf : fok s ⟨k, key, 0⟩ with
  | true =>
    have hlt := fok_lt hf
    have t1 : (0 : Int) ≤ (fidx s ⟨k, key, 0⟩ : Int) + 1 := by omega
    have t2 : ((fidx s ⟨k, key, 0⟩ : Int) + 1).toNat = fidx s ⟨k, key, 0⟩ + 1 := by omega
    have t3 : fidx s ⟨k, key, 0⟩ + 1 ≤ s.length := hlt
    simp [go_sem, hle, t1, t2, t3, wrap_succ hlt (show s.length ≤ maxLen by unfold maxLen; omega)]
    refine ⟨⟨by omega, by omega⟩, ⟨by omega, by omega⟩, ⟨by omega, by omega⟩, ?_⟩
    refine PostR.retW [19] ?_ (.refl _)
    simp [go_sem, setOf, hf, List.map_take, List.map_drop]
    exact List.take_of_length_le (by simp)
  | false =>
    simp [go_sem, hle]
    refine ⟨⟨by omega, by omega⟩, ⟨by omega, by omega⟩, ⟨by omega, by omega⟩, ?_⟩
    refine PostR.retW [19] ?_ (.refl _)
    simp [go_sem, setOf, hf, List.map_take, List.map_drop]
    exact List.take_of_length_le (by simp)

end Go.Proofs.Ytppgiipgppeenaa
