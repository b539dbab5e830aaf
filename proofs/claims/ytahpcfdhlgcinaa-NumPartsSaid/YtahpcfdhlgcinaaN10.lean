/- The laws of chapter 01 without the reference: NumOnce, NumParts. No condition. -/
import Derived.Test.YtahpcfdhlgcinaaN9
namespace Go.Proofs.Ytahpcfdhlgcinaa
open Go Go.Abs
set_option linter.unusedSimpArgs false
theorem sorted_extN {a b : List Int} (h : ∀ x, x ∈ a ↔ x ∈ b) : sortedL a = sortedL b :=
  strict_ext (sortedL_sorted a).1 (sortedL_sorted b).1 fun x => by rw [(sortedL_sorted a).2, (sortedL_sorted b).2, h]
theorem sorted_pos {l : List Int} : 0 < (sortedL l).length ↔ 0 < l.length := by
  constructor
  · intro h
    have := sortedL_lenN l
    omega
  · intro h
    have hm : l[0] ∈ sortedL l := (sortedL_sorted l).2 _ |>.2 (List.getElem_mem h)
    exact List.length_pos_of_mem hm
theorem last_max {l : List Int} (h : 0 < (sortedL l).length) : maxOf l = some ((sortedL l)[(sortedL l).length - 1]'(by omega)) := by
  obtain ⟨hs, hmem⟩ := sortedL_sorted l
  cases l with
  | nil => rw [sorted_pos] at h; simp at h
  | cons x l =>
    obtain ⟨g1, g2, g3⟩ := maxF_mem l x
    have hmm : maxF x l ∈ x :: l := by
      rcases g1 with g1 | g1
      · rw [g1]; exact List.mem_cons_self ..
      · exact List.mem_cons_of_mem _ g1
    have hle : ∀ y ∈ x :: l, y ≤ maxF x l := fun y hy => by
      rcases List.mem_cons.1 hy with rfl | hy
      · exact g2
      · exact g3 y hy
    have h1 := hle _ ((hmem _).1 (List.getElem_mem (l := sortedL (x :: l)) (n := (sortedL (x :: l)).length - 1) (by omega)))
    obtain ⟨j, hj, hje⟩ := List.mem_iff_getElem.1 ((hmem _).2 hmm)
    have h2 : maxF x l ≤ (sortedL (x :: l))[(sortedL (x :: l)).length - 1]'(by omega) := by
      rw [← hje]
      rcases Nat.lt_or_ge j ((sortedL (x :: l)).length - 1) with hlt | hge
      · exact Int.le_of_lt (List.pairwise_iff_getElem.1 hs j _ hj (by omega) hlt)
      · have : j = (sortedL (x :: l)).length - 1 := by omega
        subst this; exact Int.le_refl _
    exact congrArg some (Int.le_antisymm h2 h1)
theorem last_max2 (l : List Int) : 0 < (sortedL l).length → maxOf l = (sortedL l)[(sortedL l).length - 1]? := fun h => by rw [last_max h, List.getElem?_eq_getElem]
set_option maxRecDepth 8000 in
set_option maxHeartbeats 4000000 in
theorem once1_law (l : List Int) : AC Try.prog 9 [ints l] (B true) := by
  refine AC.of_body Try.func9 rfl rfl Try.ntmps9 (congrArg Array.toList Try.results9) (by simp) (pures1 (pure_ints _)) (pure_B _) fun w S' => AWp.of_vc [] ?_
  by_cases g : (100 : Int) < l.length
  · simp [go_sem, g]
    refine CallSem.pure lives1_ac (by simp [go_sem]) ?_
    simp [go_sem]
    refine PostR.ret ?_
    simp [go_sem]
  have hlm : l.length ≤ maxLen := by unfold maxLen; omega
  obtain ⟨hs, hmem⟩ := sortedL_sorted l
  have hsl := sortedL_lenN l
  have hpos := sorted_pos (l := l)
  have hlast := last_max2 l
  simp [go_sem, g]
  refine CallSem.pure (numSorted_ac l (by omega)) (by simp [go_sem]) ?_
  rw [sortedSet_eq]
  generalize sortedL l = s at hs hmem hsl hpos hlast ⊢
  have hsm : s.length ≤ maxLen := by omega
  simp [go_sem]
  refine AWp.loop_vc [] (fun m st => ∃ q : Nat, q ≤ s.length ∧ m = s.length - q ∧ st.σ 0 = ints l ∧ st.σ 3 = ints s ∧ st.σ 4 = I q) s.length ⟨0, by simp [go_sem]⟩ ?_
  rintro m st ⟨q, hq, rfl, h0, h3, h4⟩
  by_cases hlt : q < s.length
  · have hin : hasI l s[q] = true := hasI_iff.2 ((hmem _).1 (List.getElem_mem hlt))
    simp [go_sem, h0, h3, h4, hlt]
    refine AWp.drawAll rfl (by kernel_rfl) ?_
    cases q with
    | zero =>
      simp [go_sem, h0, h3, h4, hlt]
      refine CalmThen.pure (r := B (hasI l s[0])) (numHas_ac l s[0]) rfl ?_
      rw [hin]
      have w1 : IntKind.i64.wrap 1 = 1 := wrapOf (by omega) (by omega)
      simp [go_sem, h0, h3, h4, hlt, w1]
      exact ⟨s.length - 1, by omega, 1, by omega, rfl, rfl⟩
    | succ p =>
      have hp : p < s.length := by omega
      have hlts := List.pairwise_iff_getElem.1 hs p (p + 1) hp hlt (by omega)
      have hge : ¬ s[p + 1] ≤ s[p] := by omega
      have hw : IntKind.i64.wrap (p : Int) = (p : Int) := wrap_natN (by omega)
      have t1 : (0 : Int) ≤ (p : Int) + 1 := by omega
      have t2 : ((p : Int) + 1).toNat = p + 1 := by omega
      have t3 : (0 : Int) < (p : Int) + 1 := by omega
      have t4 : (p : Int) + 1 < s.length := by omega
      simp [go_sem, h0, h3, h4, hlt, hp, hge, hw, t1, t2, t3, t4]
      refine CalmThen.pure (r := B (hasI l s[p + 1])) (numHas_ac l s[p + 1]) rfl ?_
      rw [hin]
      simp [go_sem, h0, h3, h4, hlt, hp, hge, hw, t1, t2, t3, t4, wrap_succ hlt hsm]
      exact ⟨s.length - (p + 1 + 1), by omega, p + 1 + 1, by omega, rfl, by have := wrap_succ hlt hsm; simpa using this⟩
  · simp [go_sem, h0, h3, h4, hlt]
    refine AWp.loop_vc [] (fun m st => ∃ q : Nat, q ≤ l.length ∧ m = l.length - q ∧ st.σ 0 = ints l ∧ st.σ 3 = ints s ∧ st.σ 5 = I q) l.length ⟨0, by simp [go_sem, h0, h3]⟩ ?_
    clear h0 h3 h4 hlt
    rintro m st ⟨q, hq, rfl, h0, h3, h5⟩
    by_cases hlt : q < l.length
    · have hin : hasI s l[q] = true := hasI_iff.2 ((hmem _).2 (List.getElem_mem hlt))
      simp [go_sem, h0, h3, h5, hlt]
      refine CallSem.pure (r := B (hasI s l[q])) (numHas_ac s l[q]) (by simp [go_sem]) ?_
      rw [hin]
      simp [go_sem, h0, h3, h5, hlt, wrap_succ hlt hlm]
      exact ⟨l.length - (q + 1), by omega, q + 1, by omega, rfl, rfl⟩
    · simp [go_sem, h0, h3, h5, hlt]
      refine CallSem.pure (max_ac l) (by simp [go_sem]) ?_
      by_cases hz : 0 < s.length
      · have hl0 := hlast hz
        have k1 : ¬ (s.length : Int) = 0 := by omega
        have k2 : ¬ s = [] := fun h => by rw [h] at hz; simp at hz
        obtain ⟨p, hp⟩ : ∃ p, s.length = p + 1 := ⟨s.length - 1, by omega⟩
        have hps : p < s.length := by omega
        have hl1 : maxOf l = some s[p] := by rw [hl0, hp, Nat.add_sub_cancel, List.getElem?_eq_getElem hps]
        have hw : IntKind.i64.wrap ((s.length : Int) - 1) = (p : Int) := by rw [hp]; simpa using wrap_natN (k := p) (by omega)
        rw [hl1]
        simp [go_sem, h0, h3, h5, hlt, k1, k2, hw, hps]
        refine CallSem.pure lives1_ac (by simp [go_sem]) ?_
        simp [go_sem]
        refine PostR.ret ?_
        simp [go_sem]
      · have hs0 : s = [] := List.eq_nil_of_length_eq_zero (by omega)
        have hl0 : l = [] := List.eq_nil_of_length_eq_zero (by rw [hpos] at hz; omega)
        subst hs0
        subst hl0
        simp [go_sem, h0, h3, h5, maxOf]
        refine CallSem.pure lives1_ac (by simp [go_sem]) ?_
        simp [go_sem]
        refine PostR.ret ?_
        simp [go_sem]

set_option maxRecDepth 8000 in
set_option maxHeartbeats 4000000 in
theorem parts1_law (a b : List Int) : AC Try.prog 10 [ints a, ints b] (B true) := by
  refine AC.of_body Try.func10 rfl rfl Try.ntmps10 (congrArg Array.toList Try.results10) (by simp) (pures2 (pure_ints _) (pure_ints _)) (pure_B _) fun w S' => AWp.of_vc [] ?_
  by_cases ga : (100 : Int) < a.length
  · simp [go_sem, ga]
    refine CallSem.pure lives1_ac (by simp [go_sem]) ?_
    simp [go_sem]
    refine PostR.ret ?_
    simp [go_sem]
  by_cases gb : (100 : Int) < b.length
  · simp [go_sem, ga, gb]
    refine CallSem.pure lives1_ac (by simp [go_sem]) ?_
    simp [go_sem]
    refine PostR.ret ?_
    simp [go_sem]
  have hal := sortedL_lenN a
  have hdl : (minusOf a b).length ≤ 100 := by
    have := List.length_filter_le (fun n => !hasI b n) (sortedL a)
    unfold minusOf; omega
  have hd : ∀ x ∈ minusOf a b, hasI b x = false ∧ hasI a x = true := by
    intro x hx
    unfold minusOf at hx
    obtain ⟨h1, h2⟩ := List.mem_filter.1 hx
    exact ⟨by simpa using h2, hasI_iff.2 ((sortedL_sorted a).2 x |>.1 h1)⟩
  have hU : sortedL (minusOf a b ++ b) = sortedL (a ++ b) := by
    refine sorted_extN fun x => ?_
    rw [List.mem_append, List.mem_append]
    constructor
    · rintro (h | h)
      · exact .inl (hasI_iff.1 (hd x h).2)
      · exact .inr h
    · rintro (h | h)
      · by_cases hb : hasI b x = true
        · exact .inr (hasI_iff.1 hb)
        · refine .inl (List.mem_filter.2 ⟨(sortedL_sorted a).2 x |>.2 h, by simpa using hb⟩)
      · exact .inr h
  simp [go_sem, ga, gb]
  refine CallSem.pure (minus_ac a b (by omega) (by omega)) (by simp [go_sem]) ?_
  generalize minusOf a b = d at hdl hd hU ⊢
  have hdm : d.length ≤ maxLen := by unfold maxLen; omega
  simp [go_sem]
  refine AWp.loop_vc [] (fun m st => ∃ q : Nat, q ≤ d.length ∧ m = d.length - q ∧ st.σ 0 = ints a ∧ st.σ 1 = ints b ∧ st.σ 5 = ints d ∧ st.σ 6 = I q) d.length ⟨0, by simp [go_sem]⟩ ?_
  rintro m st ⟨q, hq, rfl, h0, h1, h5, h6⟩
  by_cases hlt : q < d.length
  · obtain ⟨k1, k2⟩ := hd _ (List.getElem_mem hlt)
    simp [go_sem, h0, h1, h5, h6, hlt]
    refine CallSem.pure (r := B (hasI b d[q])) (numHas_ac b d[q]) (by simp [go_sem]) ?_
    rw [k1]
    simp [go_sem, h0, h1, h5, h6, hlt]
    refine CallSem.pure (r := B (hasI a d[q])) (numHas_ac a d[q]) (by simp [go_sem]) ?_
    rw [k2]
    simp [go_sem, h0, h1, h5, h6, hlt, wrap_succ hlt hdm]
    exact ⟨d.length - (q + 1), by omega, q + 1, by omega, rfl, rfl⟩
  · simp [go_sem, h0, h1, h5, h6, hlt]
    refine CallSem.pure (numUnion_ac d b (by omega)) (by simp [go_sem]) ?_
    rw [sortedSet_eq]
    simp [go_sem, h0, h1, h5, h6]
    refine CallSem.pure (numUnion_ac a b (by omega)) (by simp [go_sem]) ?_
    rw [sortedSet_eq, hU]
    simp [go_sem, h0, h1, h5, h6]
    refine CallSem.pure (same_ac (sortedL (a ++ b)) (sortedL (a ++ b))) (by simp [go_sem]) ?_
    simp [go_sem]
    refine CallSem.pure lives1_ac (by simp [go_sem]) ?_
    simp [go_sem]
    refine PostR.ret ?_
    simp [go_sem]

end Go.Proofs.Ytahpcfdhlgcinaa
