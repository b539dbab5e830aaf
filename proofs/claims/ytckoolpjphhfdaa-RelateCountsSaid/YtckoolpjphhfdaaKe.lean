/- Several texts of the proof in one: U4, P1. No condition. -/
import Derived.Test.YtckoolpjphhfdaaKd
import Derived.Test.YtckoolpjphhfdaaLa
set_option linter.unusedSimpArgs false
set_option linter.unusedVariables false
-- part U4
namespace Go.Proofs.Ytckoolpjphhfdaa
open Go Go.Abs Go.Shelf
set_option linter.unusedSimpArgs false
set_option maxRecDepth 4000 in
set_option maxHeartbeats 1000000 in
theorem cloneI_ac (l : List Int) (hsz : l.length ≤ 1000000000) : AC Try.prog 45 [ints l] (.fresh 3 1 (l.map I)) := by
  refine AC.of_body Try.func45 rfl rfl Try.ntmps45 (congrArg Array.toList Try.results45) (by simp) (pures1 (pure_ints _)) (pureR_fresh_ints _ _) fun w S => AWp.of_vc [5] ?_
  simp [go_sem]
  refine ⟨?_, ?_⟩
  · refine ⟨⟨by omega, by omega⟩, ?_⟩
    refine PostR.ret ?_
    simp [go_sem]
  · rintro rfl
    refine PostR.retW [] (r0 := .v (.slice none 0 0)) ?_ (.fresh _ _)
    simp [go_sem]

/-- The elements in increasing order, each once, as the library makes them. -/
def sortedSet (l : List Int) : List Int := Lib.compact (l.mergeSort fun x y => decide (x ≤ y))

set_option maxRecDepth 4000 in
set_option maxHeartbeats 1000000 in
theorem numSorted_ac (l : List Int) (hsz : l.length ≤ 1000000000) : AC Try.prog 35 [ints l] (ints (sortedSet l)) := by
  refine AC.of_body Try.func35 rfl rfl Try.ntmps35 (congrArg Array.toList Try.results35) (by simp) (pures1 (pure_ints _)) (pureR_ints _) fun w S => AWp.of_vc [] ?_
  simp [go_sem]
  refine CallSem.pure (cloneI_ac l hsz) (by simp [go_sem]) ?_
  simp [go_sem]
  refine CallSem.sortInts (ρ := Try.laysSort_ren) (id := 5) (e := 3) (l := l) Try.laysSort ⟨_, Try.func46, rfl, rfl⟩ (by simp [go_sem]) (by simp [go_sem, Function.comp_def]; try rfl) (by simp [go_sem]) (by omega) ?_
  simp [go_sem]
  refine CallSem.compactInts (ρ := Try.laysCompact_ren) (id := 5) (e := 3) (l := l.mergeSort fun x y => decide (x ≤ y)) Try.laysCompact ⟨_, Try.func47, rfl, rfl⟩ (by simp [go_sem]) (by simp [go_sem]) (by simp [go_sem]) (compact_len _) ?_
  simp [go_sem]
  refine PostR.retW [5] ?_ (.refl _)
  simp [go_sem, sortedSet]


end Go.Proofs.Ytckoolpjphhfdaa

-- part P1
namespace Go.Proofs.Ytckoolpjphhfdaa
open Go Go.Abs Go.Lib

theorem compact_spec (l : List Int) (hs : l.Pairwise (· ≤ ·)) : ∀ m, m ≤ l.length → (compactUpTo l.toArray m).Pairwise (· < ·) ∧ ∀ x, x ∈ compactUpTo l.toArray m ↔ x ∈ l.take m
  | 0, _ => by simp [compactUpTo]
  | m + 1, hm => by
    obtain ⟨h1, h2⟩ := compact_spec l hs m (by omega)
    have hlt : m < l.length := by omega
    have hd : l.toArray[m]! = l[m] := by simp [hlt]
    have ht : l.take (m + 1) = l.take m ++ [l[m]] := List.take_succ_eq_append_getElem hlt
    rw [compactUpTo_succ, hd]
    have hle : ∀ x, x ∈ l.take m → x ≤ l[m] := by
      have := hs.sublist (List.take_sublist (m + 1) l)
      rw [ht] at this
      exact fun x hx => (List.pairwise_append.1 this).2.2 x hx _ (by simp)
    by_cases hk : keeps l.toArray m = true
    · rw [if_pos hk]
      refine ⟨List.pairwise_append.2 ⟨h1, by simp, fun x hx y hy => ?_⟩, fun x => ?_⟩
      · simp only [List.mem_singleton] at hy
        subst hy
        have hx' := (h2 x).1 hx
        have hne : x ≠ l[m] := by
          intro he
          simp only [keeps, decide_eq_true_eq] at hk
          rcases hk with h0 | h0
          · subst h0; simp at hx'
          · have hm0 : 0 < m := by
              rcases Nat.eq_zero_or_pos m with h | h
              · subst h; simp at hx'
              · exact h
            have hp : l.toArray[m - 1]! = l[m - 1] := by simp [show m - 1 < l.length from by omega]
            rw [hd, hp] at h0
            -- x is at some place before m, so x is at most the one before m
            obtain ⟨i, hi, hxi⟩ := List.mem_iff_getElem.1 hx'
            simp only [List.length_take] at hi
            simp only [List.getElem_take] at hxi
            have h3 : l[i] ≤ l[m - 1] := by
              by_cases h : i = m - 1
              · subst h; exact Int.le_refl _
              · exact List.pairwise_iff_getElem.1 hs i (m - 1) (by omega) (by omega) (by omega)
            have h4 : l[m - 1] ≤ l[m] := List.pairwise_iff_getElem.1 hs (m - 1) m (by omega) (by omega) (by omega)
            omega
        have := hle x hx'
        omega
      · rw [ht, List.mem_append, List.mem_append, h2]
    · rw [if_neg hk]
      refine ⟨by simpa using h1, fun x => ?_⟩
      have hk' : m ≠ 0 ∧ l.toArray[m]! = l.toArray[m - 1]! := by
        simp only [keeps, decide_eq_true_eq, not_or, Decidable.not_not] at hk
        exact hk
      have hp : l.toArray[m - 1]! = l[m - 1] := by simp [show m - 1 < l.length from by omega]
      have he : l[m] = l[m - 1] := by rw [hd, hp] at hk'; exact hk'.2
      rw [List.append_nil, h2, ht, List.mem_append, List.mem_singleton]
      constructor
      · exact .inl
      · rintro (h | rfl)
        · exact h
        · rw [he]
          have hm0 := hk'.1
          exact List.mem_iff_getElem.2 ⟨m - 1, by simp; omega, by simp⟩

theorem sortedSet_sorted (l : List Int) : (sortedSet l).Pairwise (· < ·) ∧ ∀ x, x ∈ sortedSet l ↔ x ∈ l := by
  have hs : (l.mergeSort fun x y => decide (x ≤ y)).Pairwise (· ≤ ·) := by
    have := List.pairwise_mergeSort (le := fun x y : Int => decide (x ≤ y)) (fun a b c h1 h2 => by simp only [decide_eq_true_eq] at *; omega) (fun a b => by simp only [Bool.or_eq_true, decide_eq_true_eq]; omega) l
    exact this.imp fun h => by simpa using h
  obtain ⟨h1, h2⟩ := compact_spec _ hs _ (Nat.le_refl _)
  refine ⟨h1, fun x => ?_⟩
  rw [show (x ∈ sortedSet l) = (x ∈ compactUpTo (l.mergeSort fun x y => decide (x ≤ y)).toArray (l.mergeSort fun x y => decide (x ≤ y)).length) from rfl, h2, List.take_length, List.mem_mergeSort]

theorem putL_spec (l : List Int) (n : Int) (hs : l.Pairwise (· < ·)) : (putL l n).Pairwise (· < ·) ∧ ∀ x, x ∈ putL l n ↔ x ∈ l ∨ x = n := by
  unfold putL
  by_cases hn : l.contains n = true
  · rw [if_pos hn]
    have hn' : n ∈ l := by simpa using hn
    exact ⟨hs, fun x => ⟨.inl, by rintro (h | rfl); exact h; exact hn'⟩⟩
  · rw [if_neg hn]
    have hn' : n ∉ l := by simpa using hn
    have hsplit : l.takeWhile (fun x => decide (x < n)) ++ l.dropWhile (fun x => decide (x < n)) = l := List.takeWhile_append_dropWhile
    have hs' := hs
    rw [← hsplit, List.pairwise_append] at hs'
    obtain ⟨g1, g2, g3⟩ := hs'
    have hlow : ∀ x ∈ l.takeWhile (fun x => decide (x < n)), x < n := fun x hx => by
      have : ∀ (m : List Int) x, x ∈ m.takeWhile (fun x => decide (x < n)) → x < n := by
        intro m
        induction m with
        | nil => intro x hx; simp at hx
        | cons y m ih =>
          intro x hx
          rw [List.takeWhile_cons] at hx
          split at hx
          · rename_i hy
            rcases List.mem_cons.1 hx with rfl | hx
            · simpa using hy
            · exact ih x hx
          · simp at hx
      exact this l x hx
    have hhigh : ∀ x ∈ l.dropWhile (fun x => decide (x < n)), n < x := fun x hx => by
      have : ∀ m : List Int, m.Pairwise (· < ·) → n ∉ m → ∀ x ∈ m.dropWhile (fun x => decide (x < n)), n < x := by
        intro m
        induction m with
        | nil => intro _ _ x hx; simp at hx
        | cons y m ih =>
          intro hp hnm x hx
          rw [List.dropWhile_cons] at hx
          rw [List.pairwise_cons] at hp
          simp only [List.mem_cons, not_or] at hnm
          split at hx
          · exact ih hp.2 hnm.2 x hx
          · rename_i hy
            simp only [decide_eq_true_eq] at hy
            rcases List.mem_cons.1 hx with rfl | hx
            · omega
            · have := hp.1 x hx; omega
      exact this l hs hn' x hx
    refine ⟨List.pairwise_append.2 ⟨g1, List.pairwise_cons.2 ⟨hhigh, g2⟩, fun x hx y hy => ?_⟩, fun x => ?_⟩
    · rcases List.mem_cons.1 hy with rfl | hy
      · exact hlow x hx
      · exact g3 x hx y hy
    · conv => rhs; rw [← hsplit]
      simp only [List.mem_append, List.mem_cons]
      constructor
      · rintro (h | h | h)
        · exact .inl (.inl h)
        · exact .inr h
        · exact .inl (.inr h)
      · rintro ((h | h) | h)
        · exact .inl h
        · exact .inr (.inr h)
        · exact .inr (.inl h)

theorem foldl_putL_spec (l : List Int) : ∀ a : List Int, a.Pairwise (· < ·) → (l.foldl putL a).Pairwise (· < ·) ∧ ∀ x, x ∈ l.foldl putL a ↔ x ∈ a ∨ x ∈ l := by
  induction l with
  | nil => intro a ha; simp [ha]
  | cons y l ih =>
    intro a ha
    obtain ⟨h1, h2⟩ := putL_spec a y ha
    obtain ⟨h3, h4⟩ := ih _ h1
    refine ⟨h3, fun x => ?_⟩
    rw [List.foldl_cons, h4, h2, List.mem_cons]
    constructor
    · rintro ((h | h) | h)
      · exact .inl h
      · exact .inr (.inl h)
      · exact .inr (.inr h)
    · rintro (h | h | h)
      · exact .inl (.inl h)
      · exact .inl (.inr h)
      · exact .inr h
theorem sortedL_sorted (l : List Int) : (sortedL l).Pairwise (· < ·) ∧ ∀ x, x ∈ sortedL l ↔ x ∈ l := by
  obtain ⟨h1, h2⟩ := foldl_putL_spec l [] (by simp)
  exact ⟨h1, fun x => by rw [show sortedL l = l.foldl putL [] from rfl, h2]; simp⟩

/-- Two increasing lists with the same members are one. -/
theorem strict_ext : ∀ {a b : List Int}, a.Pairwise (· < ·) → b.Pairwise (· < ·) → (∀ x, x ∈ a ↔ x ∈ b) → a = b
  | [], [], _, _, _ => rfl
  | [], y :: b, _, _, h => by have := (h y).2 (by simp); simp at this
  | x :: a, [], _, _, h => by have := (h x).1 (by simp); simp at this
  | x :: a, y :: b, ha, hb, h => by
    rw [List.pairwise_cons] at ha hb
    have hxy : x = y := by
      rcases List.mem_cons.1 ((h x).1 (by simp)) with h1 | h1
      · exact h1
      · rcases List.mem_cons.1 ((h y).2 (by simp)) with h2 | h2
        · exact h2.symm
        · have := hb.1 x h1; have := ha.1 y h2; omega
    subst hxy
    congr 1
    refine strict_ext ha.2 hb.2 fun z => ⟨fun hz => ?_, fun hz => ?_⟩
    · rcases List.mem_cons.1 ((h z).1 (by simp [hz])) with h1 | h1
      · have := ha.1 z hz; omega
      · exact h1
    · rcases List.mem_cons.1 ((h z).2 (by simp [hz])) with h1 | h1
      · have := hb.1 z hz; omega
      · exact h1
theorem sortedSet_eq (l : List Int) : sortedSet l = sortedL l :=
  strict_ext (sortedSet_sorted l).1 (sortedL_sorted l).1 fun x => by rw [(sortedSet_sorted l).2, (sortedL_sorted l).2]
end Go.Proofs.Ytckoolpjphhfdaa
