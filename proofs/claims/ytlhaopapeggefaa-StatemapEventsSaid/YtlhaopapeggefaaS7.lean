/- Contracts of chapter 10: both Split. No condition. -/
import Derived.Test.YtlhaopapeggefaaS6
import Derived.Test.YtlhaopapeggefaaP1
namespace Go.Proofs.Ytlhaopapeggefaa
open Go Go.Abs
set_option linter.unusedSimpArgs false
def idsS (a : EntD → Bool) (s : List EntD) : List Int := (s.filter fun e => !a e).map (·.id)
def idsO (a : EntD → Bool) (l : List (List EntD)) (k : Nat) : List Int := (l.take k).flatMap (idsS a)
def sameO (a : EntD → Bool) (l : List (List EntD)) (k : Nat) : List EntD := if k = 0 then [] else (l.getD 0 []).filter a
theorem idsO_succ (a : EntD → Bool) {l : List (List EntD)} {k : Nat} (h : k < l.length) : idsO a l (k + 1) = idsO a l k ++ idsS a l[k] := by
  unfold idsO
  rw [List.take_succ_eq_append_getElem h, List.flatMap_append]
  simp
theorem idsS_succ (a : EntD → Bool) {s : List EntD} {q : Nat} (h : q < s.length) : idsS a (s.take (q + 1)) = if a s[q] = true then idsS a (s.take q) else idsS a (s.take q) ++ [s[q].id] := by
  unfold idsS
  rw [filter_take _ _ _ h]
  cases ha : a s[q] <;> simp
def splitAV (a : EntD → Bool) (l : List (List EntD)) : AV := .tup [ents (sameO a l l.length), ints (sortedL (idsO a l l.length))]
theorem pureR_split (a : EntD → Bool) (l : List (List EntD)) : PureR (splitAV a l) := pureR_tup2 (pure_ents _) (pure_ints _) (pure_ents _) (pure_ints _)
theorem idsS_len (a : EntD → Bool) (s : List EntD) : (idsS a s).length ≤ s.length := by
  unfold idsS; rw [List.length_map]; exact List.length_filter_le _ _
set_option maxRecDepth 8000 in
set_option maxHeartbeats 4000000 in
theorem split_ac (l : List (List EntD)) (hn : l.length ≤ 1000) (hs : ∀ s ∈ l, s.length ≤ 1000) : AC Try.prog 22 [states l] (splitAV (allOf l) l) := by
  refine AC.of_body Try.func22 rfl rfl Try.ntmps22 (congrArg Array.toList Try.results22) (by simp) (pures1 (pure_states _)) (pureR_split _ _) fun w S' => AWp.of_vc [] ?_
  have hm : l.length ≤ maxLen := by unfold maxLen; omega
  simp [go_sem]
  refine AWp.ownNilBox 4 33 30 3 (by simp [go_sem]) (by decide) ?_
  refine AWp.ownNilBox 5 27 3 1 (by simp [go_sem]) (by decide) ?_
  refine AWp.loop_vc [] (fun m s => ∃ k v w : Nat, k ≤ l.length ∧ m = l.length - k ∧ s.σ 1 = .eptr [states l] 0 ∧ s.σ 4 = .rptr 4 1 0 0 ∧ s.ver 4 = 1 ∧ s.h 4 = .box [.ref 33 v] ∧ s.ver 33 = v ∧ s.h 33 = .arr 30 3 ((sameO (allOf l) l k).map ent) ∧
    s.σ 5 = .rptr 5 1 0 0 ∧ s.ver 5 = 1 ∧ s.h 5 = .box [.ref 27 w] ∧ s.ver 27 = w ∧ s.h 27 = .arr 3 1 ((idsO (allOf l) l k).map I) ∧ s.σ 9 = states l ∧ s.σ 10 = I l.length ∧ s.σ 11 = I k ∧ (idsO (allOf l) l k).length ≤ 1000 * k ∧ (sameO (allOf l) l k).length ≤ 1000) l.length ⟨0, 1, 1, by simp [go_sem, sameO, idsO]⟩ ?_
  rintro m s ⟨k, v, w', hk, rfl, h1, h4, v4, b4, v33, a33, h5, v5, b5, v27, a27, h9, h10, h11, hli, hls⟩
  by_cases hlt : k < l.length
  · have hsk : l[k].length ≤ 1000 := hs _ (List.getElem_mem hlt)
    simp [go_sem, h1, h4, h5, h9, h10, h11, hlt]
    refine CallSem.pure (each_ac l[k]) (by simp [go_sem]) ?_
    simp [go_sem, h1, h4, h5, h9, h10, h11, hlt]
    refine range_each (s := l[k]) 19999 (by decide) (by simp [go_sem]) rfl (by simp) (by unfold maxLen; omega) (fun q s1 => ∃ v w : Nat, s1.ver 4 = 1 ∧ s1.h 4 = .box [.ref 33 v] ∧ s1.ver 33 = v ∧ s1.h 33 = .arr 30 3 ((if k = 0 then (l[k].take q).filter (allOf l) else sameO (allOf l) l k).map ent) ∧
      s1.ver 5 = 1 ∧ s1.h 5 = .box [.ref 27 w] ∧ s1.ver 27 = w ∧ s1.h 27 = .arr 3 1 ((idsO (allOf l) l k ++ idsS (allOf l) (l[k].take q)).map I) ∧ s1.ver 6 = s.ver 6 + 1 ∧ s1.h 6 = .box [I k]) ?_ ⟨v, w', by by_cases hk0 : k = 0 <;> simp [go_sem, v4, b4, v33, a33, v5, b5, v27, a27, idsS, sameO, hk0]⟩ ?_ ?_
    · rintro q s1 s2 ⟨v, w, g1, g2, g3, g4, g5, g6, g7, g8, g9, g10⟩ hσ hag
      have a4 := hag 4 (by decide) (by decide)
      have a33 := hag 33 (by decide) (by decide)
      have a5 := hag 5 (by decide) (by decide)
      have a27 := hag 27 (by decide) (by decide)
      have a6 := hag 6 (by decide) (by decide)
      exact ⟨v, w, a4.1.trans g1, a4.2.trans g2, a33.1.trans g3, a33.2.trans g4, a5.1.trans g5, a5.2.trans g6, a27.1.trans g7, a27.2.trans g8, a6.1.trans g9, a6.2.trans g10⟩
    · rintro q hq s1 L r V e0 ⟨v, w, g1, g2, g3, g4, g5, g6, g7, g8, g9, g10⟩ hσ hV hR
      have hl1 := idsS_len (allOf l) (l[k].take q)
      have hl2 : (List.filter (allOf l) (l[k].take q)).length ≤ 1000 := by
        have := List.length_filter_le (allOf l) (l[k].take q)
        simp only [List.length_take] at this; omega
      simp only [List.length_take] at hl1
      have hids := idsS_succ (allOf l) hq
      have hsm := filter_take (allOf l) _ _ hq
      refine AWp.of_vc [8, 27, 33] ?_
      simp [go_sem, hV, hR]
      intro e1
      refine AWp.of_vc [8, 27, 33] ?_
      simp [go_sem, hV, hR, h1]
      refine CallSem.pure (all_ac l l[k][q]) (by simp [go_sem]) ?_
      cases ha : allOf l l[k][q] with
      | false =>
        rw [ha] at hids hsm
        simp at hids hsm
        simp [go_sem, hV, hR, h5, g1, g2, g3, g4, g5, g6, g7, g8, g9, g10, hids, hsm]
        omega
      | true =>
        rw [ha] at hids hsm
        simp at hids hsm
        have h6 : True := trivial
        by_cases hk0 : k = 0
        · subst hk0
          simp [go_sem, hV, hR, h4, g1, g2, g3, g4, g5, g6, g7, g8, g9, g10, hids, hsm]
          omega
        · have hk0' : ¬ (k : Int) = 0 := by omega
          simp [go_sem, hV, hR, h4, g1, g2, g3, g4, g5, g6, g7, g8, g9, g10, hids, hsm, hk0, hk0']
    · rintro s1 ⟨v, w, g1, g2, g3, g4, g5, g6, g7, g8, g9, g10⟩ hσ
      rw [List.take_length] at g4 g8
      simp [go_sem, hσ, h1, h4, h5, h9, h10, h11, wrap_succ hlt hm]
      refine ⟨l.length - (k + 1), by omega, k + 1, by omega, rfl, g1, v, g2, g3, ?_, g5, w, g6, g7, ?_, rfl, ?_, ?_⟩
      · rw [g4]
        congr 2
        by_cases hk0 : k = 0
        · subst hk0; simp [sameO, List.getD, hlt]
        · simp [sameO, hk0]
      · rw [g8, idsO_succ _ hlt]
      · rw [idsO_succ _ hlt, List.length_append]
        have := idsS_len (allOf l) l[k]
        omega
      · have h0 : (l.getD 0 []).length ≤ 1000 := by
          have hl0 : 0 < l.length := by omega
          simp only [List.getD, List.getElem?_eq_getElem hl0, Option.getD_some]
          exact hs _ (List.getElem_mem hl0)
        unfold sameO
        rw [if_neg (by omega)]
        exact Nat.le_trans (List.length_filter_le _ _) h0
  · have hk' : k = l.length := by omega
    subst hk'
    simp [go_sem, h1, h4, h5, h9, h10, h11]
    refine AWp.freeze 33 ?_
    refine AWp.freeze 27 ?_
    refine AWp.drawAll rfl (by kernel_rfl) ?_
    simp [go_sem, h1, h4, h5, v4, b4, v33, a33, v5, b5, v27, a27]
    refine CalmThen.pure (numSorted_ac (idsO (allOf l) l l.length) (by omega)) (by simp [go_sem]) ?_
    simp [go_sem]
    refine PostR.ret ?_
    simp [go_sem, splitAV, sortedSet_eq]
theorem foldl_putL_append (a b : List Int) : sortedL (a ++ b) = b.foldl putL (sortedL a) := by unfold sortedL; rw [List.foldl_append]
set_option maxRecDepth 8000 in
set_option maxHeartbeats 4000000 in
theorem rsplit_ac (l : List (List EntD)) (hn : l.length ≤ 1000) (hs : ∀ s ∈ l, s.length ≤ 1000) : AC Try.prog 23 [states l] (splitAV (rallOf l) l) := by
  refine AC.of_body Try.func23 rfl rfl Try.ntmps23 (congrArg Array.toList Try.results23) (by simp) (pures1 (pure_states _)) (pureR_split _ _) fun w S' => AWp.of_vc [8] ?_
  have hm : l.length ≤ maxLen := by unfold maxLen; omega
  simp [go_sem]
  refine AWp.loop_vc [8] (fun m s => ∃ k v : Nat, k ≤ l.length ∧ m = l.length - k ∧ s.σ 0 = states l ∧ s.σ 6 = I k ∧ s.σ 5 = ints (sortedL (idsO (rallOf l) l k)) ∧ s.σ 4 = .ref 8 v ∧ s.ver 8 = v ∧ s.h 8 = .arr 30 3 ((sameO (rallOf l) l k).map ent) ∧ (idsO (rallOf l) l k).length ≤ 1000 * k ∧ (sameO (rallOf l) l k).length ≤ 1000) l.length ⟨0, 1, by simp [go_sem, sameO, idsO, sortedL]⟩ ?_
  rintro m s ⟨k, v, hk, rfl, h0, h6, h5, h4, v8, a8, hli, hls⟩
  by_cases hlt : k < l.length
  · have hsk : l[k].length ≤ 1000 := hs _ (List.getElem_mem hlt)
    simp [go_sem, h0, h4, h5, h6, hlt]
    refine AWp.loop_vc [8] (fun m s => ∃ q v : Nat, q ≤ l[k].length ∧ m = l[k].length - q ∧ s.σ 0 = states l ∧ s.σ 6 = I k ∧ s.σ 7 = I q ∧ s.σ 5 = ints (sortedL (idsO (rallOf l) l k ++ idsS (rallOf l) (l[k].take q))) ∧ s.σ 4 = .ref 8 v ∧ s.ver 8 = v ∧ s.h 8 = .arr 30 3 ((if k = 0 then (l[k].take q).filter (rallOf l) else sameO (rallOf l) l k).map ent)) l[k].length ⟨0, v, by by_cases hk0 : k = 0 <;> simp [go_sem, h0, h4, h5, h6, v8, a8, idsS, sameO, hk0]⟩ ?_
    rintro m s' ⟨q, v, hq, rfl, g0, g6, g7, g5, g4, gv, ga⟩
    by_cases hql : q < l[k].length
    · have hl1 := idsS_len (rallOf l) (l[k].take q)
      have hl2 : (List.filter (rallOf l) (l[k].take q)).length ≤ 1000 := by
        have := List.length_filter_le (rallOf l) (l[k].take q)
        simp only [List.length_take] at this; omega
      have hl3 : (sortedL (idsO (rallOf l) l k ++ idsS (rallOf l) (l[k].take q))).length ≤ 1000000000 := by
        have := foldl_putL_len (idsO (rallOf l) l k ++ idsS (rallOf l) (l[k].take q)) []
        simp only [List.length_append, List.length_nil, List.length_take] at this hl1
        unfold sortedL
        have : 1000 * k ≤ 1000 * 1000 := Nat.mul_le_mul_left _ (by omega)
        omega
      simp only [List.length_take] at hl1
      have hids := idsS_succ (rallOf l) hql
      have hsm := filter_take (rallOf l) _ _ hql
      have hw := wrap_succ hql (show l[k].length ≤ maxLen by unfold maxLen; omega)
      simp [go_sem, g0, g4, g5, g6, g7, hlt, hql]
      refine CallSem.pure (rall_ac l l[k][q]) (by simp [go_sem]) ?_
      cases ha : rallOf l l[k][q] with
      | false =>
        rw [ha] at hids hsm
        simp at hids hsm
        simp [go_sem, g0, g4, g5, g6, g7, hlt, hql]
        refine CallSem.pure (put_ac _ l[k][q].id hl3) (by simp [go_sem]) ?_
        simp [go_sem, g0, g4, g5, g6, g7, hlt, hql, hw]
        refine ⟨l[k].length - (q + 1), by omega, q + 1, by omega, rfl, rfl, ?_, gv, ?_⟩
        · rw [hids, ← List.append_assoc, foldl_putL_append _ [_]]; rfl
        · rw [ga, hsm]
      | true =>
        rw [ha] at hids hsm
        simp at hids hsm
        by_cases hk0 : k = 0
        · subst hk0
          simp [go_sem, g0, g4, g5, g6, g7, hlt, hql, gv, ga, hw]
          refine ⟨⟨by omega, by omega⟩, l[0].length - (q + 1), by omega, q + 1, by omega, rfl, rfl, by rw [hids], by rw [hsm]; simp [go_sem]⟩
        · have hk0' : ¬ (k : Int) = 0 := by omega
          simp [go_sem, g0, g4, g5, g6, g7, hlt, hql, gv, ga, hw, hk0, hk0']
          exact ⟨l[k].length - (q + 1), by omega, q + 1, by omega, rfl, rfl, by rw [hids]⟩
    · have hq' : q = l[k].length := by omega
      subst hq'
      rw [List.take_length] at g5 ga
      simp [go_sem, g0, g4, g5, g6, g7, hlt, wrap_succ hlt hm]
      refine ⟨l.length - (k + 1), by omega, k + 1, by omega, rfl, rfl, ?_, gv, ?_, ?_, ?_⟩
      · rw [idsO_succ _ hlt]
      · rw [ga]
        congr 2
        by_cases hk0 : k = 0
        · subst hk0; simp [sameO, List.getD, hlt]
        · simp [sameO, hk0]
      · rw [idsO_succ _ hlt, List.length_append]
        have := idsS_len (rallOf l) l[k]
        omega
      · have h0 : (l.getD 0 []).length ≤ 1000 := by
          have hl0 : 0 < l.length := by omega
          simp only [List.getD, List.getElem?_eq_getElem hl0, Option.getD_some]
          exact hs _ (List.getElem_mem hl0)
        unfold sameO
        rw [if_neg (by omega)]
        exact Nat.le_trans (List.length_filter_le _ _) h0
  · have hk' : k = l.length := by omega
    subst hk'
    simp [go_sem, h0, h4, h5, h6]
    refine PostR.retW [8] ?_ (.refl _)
    simp [go_sem, h0, h4, h5, h6, v8, a8, splitAV]
end Go.Proofs.Ytlhaopapeggefaa
