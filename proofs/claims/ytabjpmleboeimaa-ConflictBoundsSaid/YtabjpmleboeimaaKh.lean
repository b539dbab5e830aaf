/- Several texts of the proof in one: C1, C2, C3, C4, C5, C6, C7, Tp, Te, Tr. No condition. -/
import Derived.Test.YtabjpmleboeimaaKe
import Derived.Test.YtabjpmleboeimaaKg
import Derived.Test.YtabjpmleboeimaaKd
import Derived.Test.YtabjpmleboeimaaKc
import Derived.Test.YtabjpmleboeimaaKb
set_option linter.unusedSimpArgs false
set_option linter.unusedVariables false
-- part C1
namespace Go.Proofs.Ytabjpmleboeimaa
open Go Go.Abs
set_option linter.unusedSimpArgs false
set_option linter.unusedVariables false
set_option maxRecDepth 8000 in
set_option maxHeartbeats 4000000 in
theorem numSortedF_ac (l : List Int) (hsz : l.length ≤ 1000000000) : AC Try.prog 29 [ints l] (.fresh 3 1 ((sortedSet l).map I)) := by
  refine AC.of_body Try.func29 rfl rfl Try.ntmps29 (congrArg Array.toList Try.results29) (by simp) (pures1 (pure_ints _)) (pureR_fresh_ints _ _) fun w S' => AWp.of_vc [] ?_
  simp [go_sem]
  refine CallSem.pure (cloneI_ac l hsz) (by simp [go_sem]) ?_
  simp [go_sem]
  refine CallSem.sortInts (ρ := Try.laysSort_ren) (id := 5) (e := 3) (l := l) Try.laysSort ⟨_, Try.func22, rfl, rfl⟩ (by simp [go_sem]) (by simp [go_sem, Function.comp_def]; try rfl) (by simp [go_sem]) (by omega) ?_
  simp [go_sem]
  refine CallSem.compactInts (ρ := Try.laysCompact_ren) (id := 5) (e := 3) (l := l.mergeSort fun x y => decide (x ≤ y)) Try.laysCompact ⟨_, Try.func23, rfl, rfl⟩ (by simp [go_sem]) (by simp [go_sem]) (by simp [go_sem]) (compact_len _) ?_
  simp [go_sem]
  refine PostR.ret ?_
  simp [go_sem, sortedSet]
def splitF (a : EntD → Bool) (l : List (List EntD)) : AV := .tup [ents (sameO a l l.length), .fresh 3 1 ((sortedL (idsO a l l.length)).map I)]
theorem pureR_splitF (a : EntD → Bool) (l : List (List EntD)) : PureR (splitF a l) := by
  intro r hr
  simp only [List.mem_cons, List.not_mem_nil, or_false] at hr
  rcases hr with rfl | rfl
  · exact pure_ents _
  · exact pureR_fresh_ints 3 _
set_option maxRecDepth 8000 in
set_option maxHeartbeats 4000000 in
theorem splitF_ac (l : List (List EntD)) (hn : l.length ≤ 1000) (hs : ∀ s ∈ l, s.length ≤ 1000) : AC Try.prog 14 [states l] (splitF (allOf l) l) := by
  refine AC.of_body Try.func14 rfl rfl Try.ntmps14 (congrArg Array.toList Try.results14) (by simp) (pures1 (pure_states _)) (pureR_splitF _ _) fun w S' => AWp.of_vc [] ?_
  have hm : l.length ≤ maxLen := by unfold maxLen; omega
  have hinj : ∀ d d' : Nat, d ≠ d' → d ≠ d' := fun _ _ h => h
  simp [go_sem]
  refine AWp.ownNilBox 4 33 54 3 (by simp [go_sem]) (by decide) ?_
  refine AWp.ownNilBox 5 27 3 1 (by simp [go_sem]) (by decide) ?_
  refine AWp.loop_vc [] (fun m s => ∃ k v w : Nat, k ≤ l.length ∧ m = l.length - k ∧ s.σ 1 = .eptr [states l] 0 ∧ s.σ 4 = .rptr 4 1 0 0 ∧ s.ver 4 = 1 ∧ s.h 4 = .box [.ref 33 v] ∧ s.ver 33 = v ∧ s.h 33 = .arr 54 3 ((sameO (allOf l) l k).map ent) ∧
    s.σ 5 = .rptr 5 1 0 0 ∧ s.ver 5 = 1 ∧ s.h 5 = .box [.ref 27 w] ∧ s.ver 27 = w ∧ s.h 27 = .arr 3 1 ((idsO (allOf l) l k).map I) ∧ s.σ 9 = states l ∧ s.σ 10 = I l.length ∧ s.σ 11 = I k ∧ (idsO (allOf l) l k).length ≤ 1000 * k ∧ (sameO (allOf l) l k).length ≤ 1000) l.length ⟨0, 1, 1, by simp [go_sem, sameO, idsO]⟩ ?_
  rintro m s ⟨k, v, w', hk, rfl, h1, h4, v4, b4, v33, a33, h5, v5, b5, v27, a27, h9, h10, h11, hli, hls⟩
  by_cases hlt : k < l.length
  · have hsk : l[k].length ≤ 1000 := hs _ (List.getElem_mem hlt)
    simp [go_sem, h1, h4, h5, h9, h10, h11, hlt]
    refine CallSem.pure (each_ac l[k]) (by simp [go_sem]) ?_
    simp [go_sem, h1, h4, h5, h9, h10, h11, hlt]
    refine range_each (s := l[k]) 19999 (by decide) (by simp [go_sem]) rfl (by simp) (by unfold maxLen; omega) (fun q s1 => ∃ v w : Nat, s1.ver 4 = 1 ∧ s1.h 4 = .box [.ref 33 v] ∧ s1.ver 33 = v ∧ s1.h 33 = .arr 54 3 ((if k = 0 then (l[k].take q).filter (allOf l) else sameO (allOf l) l k).map ent) ∧
      s1.ver 5 = 1 ∧ s1.h 5 = .box [.ref 27 w] ∧ s1.ver 27 = w ∧ s1.h 27 = .arr 3 1 ((idsO (allOf l) l k ++ idsS (allOf l) (l[k].take q)).map I) ∧ s1.ver 6 = s.ver 6 + 1 ∧ s1.h 6 = .box [I k]) ?_ ⟨v, w', by by_cases hk0 : k = 0 <;> simp [go_sem, v4, b4, v33, a33, v5, b5, v27, a27, idsS, sameO, hk0]⟩ ?_ ?_
    · rintro q s1 s2 ⟨v, w, g1, g2, g3, g4, g5, g6, g7, g8, g9, g10⟩ hσ hag
      have a4 := hag 4 (by decide) (by decide)
      have a33 := hag 33 (by decide) (by decide)
      have a5 := hag 5 (by decide) (by decide)
      have a27 := hag 27 (by decide) (by decide)
      have a6 := hag 6 (by decide) (by decide)
      exact ⟨v, w, a4.1.trans g1, a4.2.trans g2, a33.1.trans g3, a33.2.trans g4, a5.1.trans g5, a5.2.trans g6, a27.1.trans g7, a27.2.trans g8, a6.1.trans g9, a6.2.trans g10⟩
    · rintro q hq s1 L r V e0 ⟨v, w, g1, g2, g3, g4, g5, g6, g7, g8, g9, g10⟩ hσ hV hR
      have hl1 := idsS_len (allOf l) (l[k].take q)
      have hl2 : (List.filter (allOf l) (l[k].take q)).length ≤ 1000 := by
        have := List.length_filter_le (allOf l) (l[k].take q)
        simp only [List.length_take] at this; omega
      simp only [List.length_take] at hl1
      have hids := idsS_succ (allOf l) hq
      have hsm := filter_take (allOf l) _ _ hq
      refine AWp.of_vc [8, 27, 33] ?_
      simp [go_sem, hV, hR]
      intro e1
      refine AWp.of_vc [8, 27, 33] ?_
      simp [go_sem, hV, hR, h1]
      refine CallSem.pure (all_ac l l[k][q]) (by simp [go_sem]) ?_
      cases ha : allOf l l[k][q] with
      | false =>
        rw [ha] at hids hsm
        simp at hids hsm
        simp [go_sem, hV, hR, h5, g1, g2, g3, g4, g5, g6, g7, g8, g9, g10, hids, hsm]
        omega
      | true =>
        rw [ha] at hids hsm
        simp at hids hsm
        have h6 : True := trivial
        by_cases hk0 : k = 0
        · subst hk0
          simp [go_sem, hV, hR, h4, g1, g2, g3, g4, g5, g6, g7, g8, g9, g10, hids, hsm]
          omega
        · have hk0' : ¬ (k : Int) = 0 := by omega
          simp [go_sem, hV, hR, h4, g1, g2, g3, g4, g5, g6, g7, g8, g9, g10, hids, hsm, hk0, hk0']
    · rintro s1 ⟨v, w, g1, g2, g3, g4, g5, g6, g7, g8, g9, g10⟩ hσ
      rw [List.take_length] at g4 g8
      simp [go_sem, hσ, h1, h4, h5, h9, h10, h11, wrap_succ hlt hm]
      refine ⟨l.length - (k + 1), by omega, k + 1, by omega, rfl, g1, v, g2, g3, ?_, g5, w, g6, g7, ?_, rfl, ?_, ?_⟩
      · rw [g4]
        congr 2
        by_cases hk0 : k = 0
        · subst hk0; simp [sameO, List.getD, hlt]
        · simp [sameO, hk0]
      · rw [g8, idsO_succ _ hlt]
      · rw [idsO_succ _ hlt, List.length_append]
        have := idsS_len (allOf l) l[k]
        omega
      · have h0 : (l.getD 0 []).length ≤ 1000 := by
          have hl0 : 0 < l.length := by omega
          simp only [List.getD, List.getElem?_eq_getElem hl0, Option.getD_some]
          exact hs _ (List.getElem_mem hl0)
        unfold sameO
        rw [if_neg (by omega)]
        exact Nat.le_trans (List.length_filter_le _ _) h0
  · have hk' : k = l.length := by omega
    subst hk'
    simp [go_sem, h1, h4, h5, h9, h10, h11]
    refine AWp.freeze 33 ?_
    refine AWp.freeze 27 ?_
    refine AWp.drawText [37] [37] [] [] rfl (by kernel_rfl) hinj ?_
    simp [go_sem, h1, h4, h5, v4, b4, v33, a33, v5, b5, v27, a27]
    refine OwnCall.fresh (numSortedF_ac (idsO (allOf l) l l.length) (by omega)) (by simp) ?_
    simp [go_sem]
    refine PostR.ret ?_
    simp [go_sem, splitF, sortedSet_eq]
def eids (s : List EntD) : List Int := s.map (·.id)
noncomputable def closOf (l : List Evt) (s : List EntD) : List Int := sortedSet (eids s ++ chainOf l (eids s))
theorem flatR_nil : FlatR (ints []) := by
  intro E E' x hx
  unfold ints at *
  cases hx with
  | lst _ _ b off cap u h0 h1 h2 h3 h4 h5 => exact .lstNo _ _ _ h2
  | lstNil => exact .lstNil _
  | lstNo _ _ _ hc => exact .lstNo _ _ _ hc
set_option maxRecDepth 8000 in
set_option maxHeartbeats 4000000 in
theorem closure_ac (l : List Evt) (s : List EntD) (hl : Fit l) (hsz : s.length ≤ 1000) : AC Try.prog 25 [evs l, ents s] (ints (closOf l s)) := by
  refine AC.of_body Try.func25 rfl rfl Try.ntmps25 (congrArg Array.toList Try.results25) (by simp) (pures2 (pure_evs _) (pure_ents _)) (pureR_ints _) fun w S' => AWp.of_vc [] ?_
  have hm : s.length ≤ maxLen := by unfold maxLen; omega
  have hei : (eids s).length = s.length := by simp [eids]
  simp [go_sem]
  refine ⟨⟨by omega, by omega⟩, ?_⟩
  refine AWp.loop_vc [] (fun m st => ∃ (k v : Nat), m = s.length - k ∧ k ≤ s.length ∧ st.σ 0 = evs l ∧ st.σ 5 = .ref 11 v ∧ st.ver 11 = v ∧ st.h 11 = .arr 3 1 ((eids (s.take k)).map I) ∧ st.σ 12 = ents s ∧ st.σ 13 = I s.length ∧ st.σ 14 = I k) s.length ⟨0, 1, by simp [go_sem, eids]⟩ ?_
  rintro m st ⟨k, v, rfl, hk, h0, h5, hv, hh, h12, h13, h14⟩
  by_cases hlt : k < s.length
  · have hsu : eids (s.take (k + 1)) = eids (s.take k) ++ [s[k].id] := by unfold eids; rw [List.take_succ_eq_append_getElem hlt, List.map_append]; rfl
    have hkl : (eids (s.take k)).length ≤ 1000 := by simp [eids]; omega
    generalize eids (s.take k) = X at hh hsu hkl
    simp [go_sem, h0, h5, hv, hh, h12, h13, h14, hlt, wrap_succ hlt hm]
    exact ⟨⟨by omega, by omega⟩, s.length - (k + 1), by omega, k + 1, rfl, by omega, by rw [hsu]; simp [I], rfl⟩
  · rw [List.take_of_length_le (by omega)] at hh
    unfold closOf
    have hac := chain_ac l (eids s) hl (by omega)
    have hcl : (chainOf l (eids s)).length ≤ l.length := reachOf_len _ _ _
    have hll := hl.len
    generalize chainOf l (eids s) = C at hac hcl ⊢
    generalize eids s = X at hh hei hac ⊢
    have htk : List.take X.length (List.map I X) = X.map I := List.take_of_length_le (by simp)
    simp [go_sem, h0, h5, hv, hh, h12, h13, h14, hlt]
    by_cases hC : C = []
    · subst hC
      have hac' : AC Try.prog 38 [evs l, .lst 1 (X.map I)] (ints []) := hac
      refine AWp.draw (n := 9) [] rfl (by kernel_rfl) ?_
      simp [go_sem, h0, h5, hv, hh, h12, h13, h14, hlt]
      refine CalmThen.lent (r := ints []) (by simpa [go_sem, h0, h5, hv, hh] using hac') flatR_nil rfl ?_
      simp [go_sem, h0, h5, hv, hh, h12, h13, h14, hlt]
      refine ⟨⟨by omega, by omega⟩, ?_⟩
      refine CallSem.sortInts (ρ := Try.laysSort_ren) (id := 11) (e := 3) (l := X) Try.laysSort ⟨_, Try.func22, rfl, rfl⟩ (by simp [go_sem, hv]) (by simp [go_sem, hv, Function.comp_def, htk]; try rfl) (by simp [go_sem]) (by omega) ?_
      simp [go_sem]
      refine CallSem.compactInts (ρ := Try.laysCompact_ren) (id := 11) (e := 3) (l := (X).mergeSort fun x y => decide (x ≤ y)) Try.laysCompact ⟨_, Try.func23, rfl, rfl⟩ (by simp [go_sem, hv]) (by simp [go_sem, hv]) (by simp [go_sem]) (compact_len _) ?_
      simp [go_sem]
      refine PostR.retW [11] ?_ (.refl _)
      simp [go_sem, sortedSet]
    · refine AWp.freeze 11 ?_
      refine AWp.draw (n := 9) [] rfl (by kernel_rfl) ?_
      simp [go_sem, h0, h5, hv, hh, h12, h13, h14, hlt]
      refine CalmThen.pure hac rfl ?_
      simp [go_sem, h0, h5, hv, hh, h12, h13, h14, hlt]
      refine ⟨⟨by omega, by omega⟩, fun h => absurd h hC, fun _ => ?_⟩
      refine CallSem.sortInts (ρ := Try.laysSort_ren) (id := 33) (e := 3) (l := X ++ C) Try.laysSort ⟨_, Try.func22, rfl, rfl⟩ (by simp [go_sem, hv]) (by simp [go_sem, hv, Function.comp_def, htk]; try rfl) (by simp [go_sem]) (by rw [List.length_append]; omega) ?_
      simp [go_sem]
      refine CallSem.compactInts (ρ := Try.laysCompact_ren) (id := 33) (e := 3) (l := (X ++ C).mergeSort fun x y => decide (x ≤ y)) Try.laysCompact ⟨_, Try.func23, rfl, rfl⟩ (by simp [go_sem, hv]) (by simp [go_sem, hv]) (by simp [go_sem]) (compact_len _) ?_
      simp [go_sem]
      refine PostR.retW [33] ?_ (.refl _)
      simp [go_sem, sortedSet]
end Go.Proofs.Ytabjpmleboeimaa

-- part C2
namespace Go.Proofs.Ytabjpmleboeimaa
open Go Go.Abs
set_option linter.unusedSimpArgs false
set_option linter.unusedVariables false
/-- A map counts the numbers of a list. -/
structure CntM (es : Array MapEntry) (clk : Nat) (L : List Int) : Prop where
  int : intM es = true
  ok : mapOK es clk
  keys : keysOK es
  cnt : ∀ n, mget es n = if L.count n = 0 then none else some (.int .i64 (L.count n : Int))
theorem CntM.nil : CntM #[] 0 [] := ⟨rfl, mapOK_nil, keysOK_nil, fun n => by simp [mget, findI]⟩
theorem CntM.get {es : Array MapEntry} {clk : Nat} {L : List Int} (h : CntM es clk L) (n : Int) : (mget es n).getD (.int .i64 0) = .int .i64 (L.count n : Int) := by
  rw [h.cnt n]
  split
  · rename_i h0; rw [h0]; rfl
  · rfl
theorem CntM.put {es : Array MapEntry} {clk : Nat} {L : List Int} (h : CntM es clk L) (n : Int) : CntM (mput es clk n (.int .i64 ((L.count n : Int) + 1))).1 (mput es clk n (.int .i64 ((L.count n : Int) + 1))).2 (L ++ [n]) := by
  refine ⟨q_mput_int _ _ _ _ h.int, mapOK_mput h.ok _ _, keysOK_mput h.int h.keys _ _, fun m => ?_⟩
  rw [q_mput_get, List.count_append, List.count_singleton]
  by_cases g : n = m
  · subst g; simp
  · have g' : ¬ (n == m) = true := by simpa using g
    rw [if_neg g, h.cnt m]
    have : (if (n == m) = true then 1 else 0) = 0 := if_neg g'
    rw [this, Nat.add_zero]
theorem CntM.size {es : Array MapEntry} {clk : Nat} {L : List Int} (h : CntM es clk L) : es.size ≤ L.length := by
  have := nodup_lenG h.keys (b := L) fun n hn => by
    obtain ⟨e, he, rfl⟩ := List.mem_map.1 hn
    have h1 := mget_of h.int h.keys he
    rw [h.cnt] at h1
    split at h1
    · cases h1
    · rename_i h0; exact List.count_pos_iff.1 (by omega)
  simpa using this
theorem CntM.val {es : Array MapEntry} {clk : Nat} {L : List Int} (h : CntM es clk L) {e : MapEntry} (he : e ∈ es.toList) : e.key = .int .i64 (keyI e) ∧ e.val = .int .i64 (L.count (keyI e) : Int) ∧ keyI e ∈ L := by
  have h1 := mget_of h.int h.keys he
  rw [h.cnt] at h1
  split at h1
  · cases h1
  · rename_i h0
    exact ⟨intM_key h.int he, (Option.some.inj h1).symm, List.count_pos_iff.1 (by omega)⟩
theorem CntM.mem {es : Array MapEntry} {clk : Nat} {L : List Int} (h : CntM es clk L) {n : Int} (hn : n ∈ L) : ∃ e ∈ es.toList, keyI e = n := by
  have h1 := h.cnt n
  rw [if_neg (by have := List.count_pos_iff.2 hn; omega)] at h1
  obtain ⟨e, he, hk, _⟩ := mget_mem h.int h1
  exact ⟨e, he, hk⟩
noncomputable def seqOf (l : List Evt) (ss : List (List EntD)) : List Int := ss.flatMap (closOf l)
def fewIn (L : List Int) (N : Nat) (n : Int) : Bool := decide ((L.count n : Int) < N)
noncomputable def differOf (l : List Evt) (ss : List (List EntD)) : List Int := sortedL ((seqOf l ss).filter (fewIn (seqOf l ss) ss.length))
theorem closOf_len (l : List Evt) (s : List EntD) : (closOf l s).length ≤ s.length + l.length := by
  obtain ⟨h1, h2⟩ := sortedSet_sorted (eids s ++ chainOf l (eids s))
  have h3 := nodup_len (h1.imp fun h => Int.ne_of_lt h) fun x hx => (h2 x).1 hx
  rw [List.length_append] at h3
  have h4 : (chainOf l (eids s)).length ≤ l.length := reachOf_len _ _ _
  have h5 : (eids s).length = s.length := by simp [eids]
  unfold closOf; omega
theorem seqOf_len (l : List Evt) : ∀ (ss : List (List EntD)) (M : Nat), (∀ s ∈ ss, s.length ≤ M) → (seqOf l ss).length ≤ (M + l.length) * ss.length
  | [], M, _ => by simp [seqOf]
  | s :: ss, M, h => by
    have ih := seqOf_len l ss M fun x hx => h x (List.mem_cons_of_mem _ hx)
    have h1 := closOf_len l s
    have h2 := h s (List.mem_cons_self ..)
    have e : seqOf l (s :: ss) = closOf l s ++ seqOf l ss := by simp [seqOf]
    rw [e, List.length_append, List.length_cons, Nat.mul_succ]; omega
theorem seqOf_succ (l : List Evt) {ss : List (List EntD)} {k : Nat} (h : k < ss.length) : seqOf l (ss.take (k + 1)) = seqOf l (ss.take k) ++ closOf l ss[k] := by
  unfold seqOf; rw [List.take_succ_eq_append_getElem h, List.flatMap_append]; simp
theorem sorted_merge {D : List Int} (hnd : D.Nodup) {R : List Int} (hR : R.Pairwise (· < ·)) (h : ∀ n, n ∈ D ↔ n ∈ R) : (D.mergeSort fun x y => decide (x ≤ y)) = R := by
  have hs : (D.mergeSort fun x y => decide (x ≤ y)).Pairwise (· ≤ ·) := by
    have := List.pairwise_mergeSort (le := fun x y : Int => decide (x ≤ y)) (fun a b c h1 h2 => by simp only [decide_eq_true_eq] at *; omega) (fun a b => by simp only [Bool.or_eq_true, decide_eq_true_eq]; omega) D
    exact this.imp fun h => by simpa using h
  have hn : (D.mergeSort fun x y => decide (x ≤ y)).Nodup := (List.mergeSort_perm D _).nodup_iff.2 hnd
  have hl : (D.mergeSort fun x y => decide (x ≤ y)).Pairwise (· < ·) := by
    have := hs.and hn
    exact this.imp fun {a b} h => by have h1 := h.1; have h2 : a ≠ b := h.2; omega
  exact strict_ext hl hR fun n => by rw [List.mem_mergeSort, h]
set_option maxRecDepth 8000 in
set_option maxHeartbeats 4000000 in
theorem differ_ac (l : List Evt) (ss : List (List EntD)) (hl : Fit l) (hn : ss.length ≤ 10) (hs : ∀ s ∈ ss, s.length ≤ 1000) : AC Try.prog 12 [evs l, states ss] (ints (differOf l ss)) := by
  refine AC.of_body Try.func12 rfl rfl Try.ntmps12 (congrArg Array.toList Try.results12) (by simp) (pures2 (pure_evs _) (pure_states _)) (pureR_ints _) fun w S' => AWp.of_vc [] ?_
  have hm : ss.length ≤ maxLen := by unfold maxLen; omega
  have hll := hl.len
  have hsl := seqOf_len l ss 1000 hs
  have hsl2 : (seqOf l ss).length ≤ 20000 := by
    have : (1000 + l.length) * ss.length ≤ 1014 * 10 := Nat.mul_le_mul (by omega) (by omega)
    omega
  simp [go_sem]
  refine AWp.loop_vc [] (fun m s => ∃ (k clk : Nat) (es : Array MapEntry), m = ss.length - k ∧ k ≤ ss.length ∧ CntM es clk (seqOf l (ss.take k)) ∧ s.σ 0 = evs l ∧ s.σ 1 = states ss ∧ s.σ 5 = .ref 13 1 ∧ s.ver 13 = 1 ∧ s.h 13 = .map es clk ∧ s.σ 14 = states ss ∧ s.σ 15 = I ss.length ∧ s.σ 16 = I k) ss.length ⟨0, 0, #[], by simp [go_sem, seqOf, CntM.nil]⟩ ?_
  rintro m s ⟨k, clk, es, rfl, hk, hC, h0, h1, h5, hv, hh, h14, h15, h16⟩
  by_cases hlt : k < ss.length
  · have hsk := hs _ (List.getElem_mem hlt)
    have hsu := seqOf_succ l hlt
    have hl1 := seqOf_len l (ss.take (k + 1)) 1000 fun x hx => hs x (List.mem_of_mem_take hx)
    have hl2 : (seqOf l (ss.take (k + 1))).length ≤ 20000 := by
      rw [List.length_take] at hl1
      have : (1000 + l.length) * (min (k + 1) ss.length) ≤ 1014 * 10 := Nat.mul_le_mul (by omega) (by omega)
      omega
    rw [hsu, List.length_append] at hl2
    simp [go_sem, h0, h1, h5, hv, hh, h14, h15, h16, hlt]
    refine CallSem.pure (closure_ac l ss[k] hl hsk) (by simp [go_sem]) ?_
    generalize seqOf l (ss.take k) = X at hC hsu hl2
    generalize closOf l ss[k] = Y at hsu hl2 ⊢
    have hYm : Y.length ≤ maxLen := by unfold maxLen; omega
    simp [go_sem, h0, h1, h5, hv, hh, h14, h15, h16, hlt]
    refine AWp.loop_vc [] (fun m s => ∃ (q clk : Nat) (es : Array MapEntry), m = Y.length - q ∧ q ≤ Y.length ∧ CntM es clk (X ++ Y.take q) ∧ s.σ 0 = evs l ∧ s.σ 1 = states ss ∧ s.σ 5 = .ref 13 1 ∧ s.ver 13 = 1 ∧ s.h 13 = .map es clk ∧ s.σ 14 = states ss ∧ s.σ 15 = I ss.length ∧ s.σ 16 = I k ∧ s.σ 22 = ints Y ∧ s.σ 23 = I Y.length ∧ s.σ 24 = I q) Y.length ⟨0, clk, es, by simp [go_sem, h0, h1, h5, hv, hh, h14, h15, h16, hC]⟩ ?_
    clear h0 h1 h5 hv hh h14 h15 h16 hC
    rintro m s ⟨q, clk, es, rfl, hq, hC, h0, h1, h5, hv, hh, h14, h15, h16, h22, h23, h24⟩
    by_cases hlq : q < Y.length
    · have hg := hC.get Y[q]
      have hp := hC.put Y[q]
      have hi := hC.int
      have hcl : (X ++ Y.take q).count Y[q] ≤ 20000 := by
        have := List.count_le_length (a := Y[q]) (l := X ++ Y.take q)
        rw [List.length_append, List.length_take] at this; omega
      have hw : IntKind.i64.wrap (((X ++ Y.take q).count Y[q] : Int) + 1) = ((X ++ Y.take q).count Y[q] : Int) + 1 := wrap_i64 (by omega) (by omega)
      have hst : X ++ Y.take (q + 1) = (X ++ Y.take q) ++ [Y[q]] := by rw [List.take_succ_eq_append_getElem hlq, List.append_assoc]
      generalize hcc : (X ++ Y.take q).count Y[q] = c at hg hp hw
      simp [go_sem, h0, h1, h5, hv, hh, h14, h15, h16, h22, h23, h24, hlq, hi, hg, hw, wrap_succ hlq hYm]
      exact ⟨Y.length - (q + 1), by omega, q + 1, rfl, by omega, _, _, by rw [hst]; exact hp, ⟨rfl, rfl⟩, rfl⟩
    · have hst : X ++ Y.take q = seqOf l (ss.take (k + 1)) := by rw [hsu, List.take_of_length_le (by omega)]
      rw [hst] at hC
      simp [go_sem, h0, h1, h5, hv, hh, h14, h15, h16, h22, h23, h24, hlq, wrap_succ hlt hm]
      exact ⟨ss.length - (k + 1), by omega, k + 1, rfl, by omega, clk, es, hC, ⟨rfl, rfl⟩, rfl⟩
  · rw [List.take_of_length_le (by omega)] at hC
    have hes := hC.size
    simp [go_sem, h0, h1, h5, hv, hh, h14, h15, h16, hlt]
    refine ⟨⟨by omega, by omega⟩, hC.ok, ?_⟩
    have hsz : es.size ≤ 20000 := by omega
    unfold differOf
    generalize hQ : seqOf l ss = Q at hC
    refine AWp.loop_vc [] (fun m s => ∃ (done : List MapEntry) (v u : Nat), m = es.size - done.length ∧ Seen es done ∧ s.σ 1 = states ss ∧ s.σ 10 = .ref 36 v ∧ s.ver 36 = v ∧ s.h 36 = .arr 3 1 (((done.map keyI).filter (fewIn Q ss.length)).map I) ∧ s.σ 38 = .rptr 38 u 0 0 ∧ s.ver 38 = u ∧ s.h 38 = .iter es clk done) es.size ⟨[], _, _, by simp [go_sem, h1, Seen.nil]; exact ⟨rfl, rfl⟩⟩ ?_
    clear h0 h1 h5 hv hh h14 h15 h16
    rintro m s ⟨done, v, u, rfl, hS, h1, h10, hv, hh, h38, hu, hi⟩
    have hdl := hS.len
    have hfl : ((done.map keyI).filter (fewIn Q ss.length)).length ≤ 20000 := by
      have := List.length_filter_le (fewIn Q ss.length) (done.map keyI)
      rw [List.length_map] at this; omega
    simp [go_sem, h1, h10, hv, hh, h38, hu, hi]
    refine NextK.mk (fun hall => ?_) fun e he hnew => ?_
    · have hD : ((done.map keyI).filter (fewIn Q ss.length)).mergeSort (fun x y => decide (x ≤ y)) = sortedL (Q.filter (fewIn Q ss.length)) := by
        refine sorted_merge ((hS.keys hC.keys).filter _) (sortedL_sorted _).1 fun n => ?_
        rw [(sortedL_sorted _).2, List.mem_filter, List.mem_filter, List.mem_map]
        refine and_congr_left fun _ => ⟨?_, fun hq => ?_⟩
        · rintro ⟨e, he, rfl⟩
          exact (hC.val (hS.mem e he)).2.2
        · obtain ⟨e, he, hk⟩ := hC.mem hq
          exact ⟨e, (hS.all hC.ok hall e).2 he, hk⟩
      rw [← hD]
      generalize (done.map keyI).filter (fewIn Q ss.length) = D at hh hfl ⊢
      simp [go_sem, h1, h10, hv, hh, h38, hu, hi]
      refine CallSem.sortInts (ρ := Try.laysSort_ren) (id := 36) (e := 3) (l := D) Try.laysSort ⟨_, Try.func22, rfl, rfl⟩ (by simp [go_sem, hv]) (by simp [go_sem, hv, hh, Function.comp_def]; try rfl) (by simp [go_sem]) (by omega) ?_
      simp [go_sem, h10, hv]
      refine PostR.retW [36] ?_ (.refl _)
      simp [go_sem, h10, hv]
    · obtain ⟨hek, hev, _⟩ := hC.val he
      have hS' := hS.snoc he hnew
      have hdl' := hS'.len
      rw [List.length_append, List.length_cons, List.length_nil] at hdl'
      have hsnoc : ((done ++ [e]).map keyI).filter (fewIn Q ss.length) = (done.map keyI).filter (fewIn Q ss.length) ++ if fewIn Q ss.length (keyI e) = true then [keyI e] else [] := by
        rw [List.map_append, List.filter_append]
        congr 1
        cases hff : fewIn Q ss.length (keyI e) <;> simp [hff]
      have hfi : fewIn Q ss.length (keyI e) = decide ((Q.count (keyI e) : Int) < (ss.length : Int)) := rfl
      generalize (done.map keyI).filter (fewIn Q ss.length) = D at hh hfl hsnoc
      by_cases hc : (Q.count (keyI e) : Int) < (ss.length : Int)
      · have hfc : fewIn Q ss.length (keyI e) = true := by rw [hfi]; exact decide_eq_true hc
        rw [hfc] at hsnoc
        simp [go_sem, h1, h10, hv, hh, h38, hu, hi, hek, hev, hc]
        exact ⟨⟨by omega, by omega⟩, es.size - (done ++ [e]).length, by rw [List.length_append, List.length_cons, List.length_nil]; omega, done ++ [e], rfl, hS', by rw [hsnoc]; simp [I], rfl⟩
      · have hfc : fewIn Q ss.length (keyI e) = false := by rw [hfi]; exact decide_eq_false hc
        rw [hfc] at hsnoc
        simp [go_sem, h1, h10, hv, hh, h38, hu, hi, hek, hev, hc]
        exact ⟨es.size - (done ++ [e]).length, by rw [List.length_append, List.length_cons, List.length_nil]; omega, done ++ [e], rfl, hS', by rw [hsnoc]; simp, rfl⟩
end Go.Proofs.Ytabjpmleboeimaa

-- part C3
namespace Go.Proofs.Ytabjpmleboeimaa
open Go Go.Abs
set_option linter.unusedSimpArgs false
set_option linter.unusedVariables false
noncomputable def fullsOf (a : EntD → Bool) (l : List Evt) (ss : List (List EntD)) : List Int := sortedL (sortedL (idsO a ss ss.length) ++ differOf l ss)
theorem differOf_len (l : List Evt) (ss : List (List EntD)) : (differOf l ss).length ≤ (seqOf l ss).length := by
  unfold differOf
  obtain ⟨h1, h2⟩ := sortedL_sorted ((seqOf l ss).filter (fewIn (seqOf l ss) ss.length))
  exact nodup_len (h1.imp fun h => Int.ne_of_lt h) fun x hx => (List.mem_filter.1 ((h2 x).1 hx)).1
theorem idsO_len (a : EntD → Bool) {ss : List (List EntD)} (hs : ∀ s ∈ ss, s.length ≤ 1000) : ∀ k, k ≤ ss.length → (idsO a ss k).length ≤ 1000 * k
  | 0, _ => by simp [idsO]
  | k + 1, h => by
    have ih := idsO_len a hs k (by omega)
    rw [idsO_succ a (by omega : k < ss.length), List.length_append]
    have h1 := idsS_len a ss[k]
    have h2 := hs _ (List.getElem_mem (by omega : k < ss.length))
    omega
set_option maxRecDepth 8000 in
set_option maxHeartbeats 4000000 in
theorem full_ac (l : List Evt) (ss : List (List EntD)) (hl : Fit l) (hn : ss.length ≤ 10) (hs : ∀ s ∈ ss, s.length ≤ 1000) : AC Try.prog 10 [evs l, states ss] (ints (fullsOf (allOf ss) l ss)) := by
  refine AC.of_body Try.func10 rfl rfl Try.ntmps10 (congrArg Array.toList Try.results10) (by simp) (pures2 (pure_evs _) (pure_states _)) (pureR_ints _) fun w S' => AWp.of_vc [] ?_
  unfold fullsOf
  have hll := hl.len
  have hsl := seqOf_len l ss 1000 hs
  have hdl := differOf_len l ss
  have hdl2 : (differOf l ss).length ≤ 20000 := by
    have : (1000 + l.length) * ss.length ≤ 1014 * 10 := Nat.mul_le_mul (by omega) (by omega)
    omega
  have hil := idsO_len (allOf ss) hs ss.length (Nat.le_refl _)
  have hil2 := sortedL_lenG (idsO (allOf ss) ss ss.length)
  simp [go_sem]
  refine CallSem.pure (splitF_ac ss (by omega) hs) (by simp [go_sem]) ?_
  unfold splitF
  generalize sortedL (idsO (allOf ss) ss ss.length) = X at hil2 ⊢
  simp [go_sem]
  refine AWp.draw (n := 9) [] rfl (by kernel_rfl) ?_
  simp [go_sem]
  refine CalmThen.pure (differ_ac l ss hl hn hs) rfl ?_
  generalize differOf l ss = D at hdl hdl2 ⊢
  rw [← sortedSet_eq]
  have htk : List.take X.length (List.map I X) = X.map I := List.take_of_length_le (by simp)
  simp [go_sem]
  refine ⟨⟨by omega, by omega⟩, fun hD => ?_, fun _ => ?_⟩
  · subst hD
    refine CallSem.sortInts (ρ := Try.laysSort_ren) (id := 2010) (e := 3) (l := X) Try.laysSort ⟨_, Try.func22, rfl, rfl⟩ (by simp [go_sem]) (by simp [go_sem, Function.comp_def, htk]; try rfl) (by simp [go_sem]) (by omega) ?_
    simp [go_sem]
    refine CallSem.compactInts (ρ := Try.laysCompact_ren) (id := 2010) (e := 3) (l := (X).mergeSort fun x y => decide (x ≤ y)) Try.laysCompact ⟨_, Try.func23, rfl, rfl⟩ (by simp [go_sem]) (by simp [go_sem]) (by simp [go_sem]) (compact_len _) ?_
    simp [go_sem]
    refine PostR.retW [2010] ?_ (.refl _)
    simp [go_sem, sortedSet]
  · skip
    refine CallSem.sortInts (ρ := Try.laysSort_ren) (id := 22) (e := 3) (l := X ++ D) Try.laysSort ⟨_, Try.func22, rfl, rfl⟩ (by simp [go_sem]) (by simp [go_sem, Function.comp_def, htk]; try rfl) (by simp [go_sem]) (by rw [List.length_append]; omega) ?_
    simp [go_sem]
    refine CallSem.compactInts (ρ := Try.laysCompact_ren) (id := 22) (e := 3) (l := (X ++ D).mergeSort fun x y => decide (x ≤ y)) Try.laysCompact ⟨_, Try.func23, rfl, rfl⟩ (by simp [go_sem]) (by simp [go_sem]) (by simp [go_sem]) (compact_len _) ?_
    simp [go_sem]
    refine PostR.retW [22] ?_ (.refl _)
    simp [go_sem, sortedSet]
end Go.Proofs.Ytabjpmleboeimaa

-- part C4
namespace Go.Proofs.Ytabjpmleboeimaa
open Go Go.Abs
set_option linter.unusedSimpArgs false
set_option linter.unusedVariables false
set_option maxRecDepth 8000 in
set_option maxHeartbeats 4000000 in
theorem rclosure_ac (l : List Evt) (s : List EntD) (hl : Fit l) (hsz : s.length ≤ 1000) : AC Try.prog 18 [evs l, ents s] (ints (closOf l s)) := by
  refine AC.of_body Try.func18 rfl rfl Try.ntmps18 (congrArg Array.toList Try.results18) (by simp) (pures2 (pure_evs _) (pure_ents _)) (pureR_ints _) fun w S' => AWp.of_vc [] ?_
  have hm : s.length ≤ maxLen := by unfold maxLen; omega
  have hei : (eids s).length = s.length := by simp [eids]
  simp [go_sem]
  refine AWp.ownNil 5 3 1 (by simp [go_sem]) ?_
  refine AWp.loop_vc [] (fun m st => ∃ (k v : Nat), m = s.length - k ∧ k ≤ s.length ∧ st.σ 0 = evs l ∧ st.σ 1 = ents s ∧ st.σ 5 = .ref 5 v ∧ st.ver 5 = v ∧ st.h 5 = .arr 3 1 ((eids (s.take k)).map I) ∧ st.σ 6 = I k) s.length ⟨0, 1, by simp [go_sem, eids]⟩ ?_
  rintro m st ⟨k, v, rfl, hk, h0, h1, h5, hv, hh, h6⟩
  by_cases hlt : k < s.length
  · have hsu : eids (s.take (k + 1)) = eids (s.take k) ++ [s[k].id] := by unfold eids; rw [List.take_succ_eq_append_getElem hlt, List.map_append]; rfl
    have hkl : (eids (s.take k)).length ≤ 1000 := by simp [eids]; omega
    generalize eids (s.take k) = X at hh hsu hkl
    simp [go_sem, h0, h1, h5, hv, hh, h6, hlt, wrap_succ hlt hm]
    exact ⟨⟨by omega, by omega⟩, s.length - (k + 1), by omega, k + 1, rfl, by omega, by rw [hsu]; simp [I], rfl⟩
  · rw [List.take_of_length_le (by omega)] at hh
    unfold closOf
    rw [sortedSet_eq]
    have hac := rchain_ac l (eids s) hl (by omega)
    have hcl : (chainOf l (eids s)).length ≤ l.length := reachOf_len _ _ _
    have hll := hl.len
    generalize chainOf l (eids s) = C at hac hcl ⊢
    generalize eids s = X at hh hei hac ⊢
    simp [go_sem, h0, h1, h5, hv, hh, h6, hlt]
    refine CallSem.freeze 5 ?_
    simp [go_sem, h0, h1, h5, hv, hh, h6, hlt]
    refine CallSem.pure hac (by simp [go_sem]) ?_
    simp [go_sem, h0, h1, h5, hv, hh, h6, hlt]
    refine CallSem.pure (runion_ac X C (by omega) (by omega)) (by simp [go_sem]) ?_
    simp [go_sem, h0, h1, h5, hv, hh, h6, hlt]
    refine PostR.ret ?_
    simp [go_sem]
theorem union_step (A C : List Int) : sortedL (sortedL A ++ C) = sortedL (A ++ C) :=
  strict_ext (sortedL_sorted _).1 (sortedL_sorted _).1 fun n => by rw [(sortedL_sorted _).2, (sortedL_sorted _).2, List.mem_append, List.mem_append, (sortedL_sorted _).2]
theorem closOf_nodup (l : List Evt) (s : List EntD) : (closOf l s).Nodup := (sortedSet_sorted _).1.imp fun h => Int.ne_of_lt h
/-- In how many of some sets is a number? -/
def setsOf (Z : List (List Int)) (n : Int) : Nat := (Z.filter fun c => hasCr2 c n).length
theorem setsOf_succ {Z : List (List Int)} {n : Int} {k : Nat} (h : k < Z.length) : setsOf (Z.take (k + 1)) n = setsOf (Z.take k) n + if hasCr2 Z[k] n = true then 1 else 0 := by
  unfold setsOf
  rw [List.take_succ_eq_append_getElem h, List.filter_append, List.length_append]
  congr 1
  cases hb : hasCr2 Z[k] n <;> simp [hb]
theorem count_sets (l : List Evt) (n : Int) : ∀ ss : List (List EntD), (seqOf l ss).count n = setsOf (ss.map (closOf l)) n
  | [] => rfl
  | s :: ss => by
    have ih := count_sets l n ss
    have e : seqOf l (s :: ss) = closOf l s ++ seqOf l ss := by simp [seqOf]
    have e2 : setsOf ((s :: ss).map (closOf l)) n = (if hasCr2 (closOf l s) n = true then 1 else 0) + setsOf (ss.map (closOf l)) n := by
      unfold setsOf
      rw [List.map_cons, List.filter_cons]
      split <;> simp <;> omega
    rw [e, List.count_append, ih, e2]
    congr 1
    have hc := List.Nodup.count (a := n) (closOf_nodup l s)
    rw [hc]
    unfold hasCr2
    simp
theorem setsOf_le (Z : List (List Int)) (n : Int) : setsOf Z n ≤ Z.length := List.length_filter_le _ _
def setAVs (Z : List (List Int)) : List AV := Z.map ints
set_option maxRecDepth 8000 in
set_option maxHeartbeats 4000000 in
theorem rdiffer_ac (l : List Evt) (ss : List (List EntD)) (hl : Fit l) (hn : ss.length ≤ 10) (hs : ∀ s ∈ ss, s.length ≤ 1000) : AC Try.prog 13 [evs l, states ss] (ints (differOf l ss)) := by
  refine AC.of_body Try.func13 rfl rfl Try.ntmps13 (congrArg Array.toList Try.results13) (by simp) (pures2 (pure_evs _) (pure_states _)) (pureR_ints _) fun w S' => AWp.of_vc [] ?_
  have hm : ss.length ≤ maxLen := by unfold maxLen; omega
  have hll := hl.len
  simp [go_sem]
  refine AWp.ownNil 5 27 1 (by simp [go_sem]) ?_
  refine AWp.nilLst 6 1 (by simp [go_sem, St.ownNil]) ?_
  refine AWp.loop_vc [] (fun m s => ∃ (k v : Nat), m = ss.length - k ∧ k ≤ ss.length ∧ s.σ 0 = evs l ∧ s.σ 1 = states ss ∧ s.σ 5 = .ref 5 v ∧ s.ver 5 = v ∧ s.h 5 = .arr 27 1 (((ss.take k).map (closOf l)).map ints) ∧ s.σ 6 = ints (sortedL (seqOf l (ss.take k))) ∧ s.σ 7 = I k) ss.length ⟨0, 1, by simp [go_sem, seqOf, sortedL]⟩ ?_
  rintro m s ⟨k, v, rfl, hk, h0, h1, h5, hv, hh, h6, h7⟩
  by_cases hlt : k < ss.length
  · have hsk := hs _ (List.getElem_mem hlt)
    have hsu := seqOf_succ l hlt
    have hl1 := seqOf_len l (ss.take k) 1000 fun x hx => hs x (List.mem_of_mem_take hx)
    have hl2 : (seqOf l (ss.take k)).length ≤ 20000 := by
      rw [List.length_take] at hl1
      have : (1000 + l.length) * (min k ss.length) ≤ 1014 * 10 := Nat.mul_le_mul (by omega) (by omega)
      omega
    have hcl := closOf_len l ss[k]
    have hmap : (ss.take (k + 1)).map (closOf l) = (ss.take k).map (closOf l) ++ [closOf l ss[k]] := by rw [List.take_succ_eq_append_getElem hlt, List.map_append]; rfl
    have hZl : ((ss.take k).map (closOf l)).length ≤ 10 := by simp; omega
    simp [go_sem, h0, h1, h5, hv, hh, h6, h7, hlt]
    refine CallSem.pure (rclosure_ac l ss[k] hl hsk) (by simp [go_sem]) ?_
    generalize seqOf l (ss.take k) = X at h6 hsu hl2
    generalize (ss.take k).map (closOf l) = Z at hh hmap hZl
    generalize closOf l ss[k] = Y at hsu hcl hmap ⊢
    have hxl := sortedL_lenG X
    simp [go_sem, h0, h1, h5, hv, hh, h6, h7, hlt]
    refine ⟨⟨by omega, by omega⟩, ?_⟩
    refine CallSem.pure (runion_ac (sortedL X) Y (by omega) (by omega)) (by simp [go_sem]) ?_
    rw [union_step, ← hsu]
    simp [go_sem, h0, h1, h5, hv, hh, h6, h7, hlt, wrap_succ hlt hm]
    exact ⟨ss.length - (k + 1), by omega, k + 1, rfl, by omega, by have := congrArg (List.map ints) hmap; simpa [go_sem, List.map_take] using this.symm, rfl, rfl⟩
  · rw [List.take_of_length_le (by omega)] at hh h6
    have hsl := seqOf_len l ss 1000 hs
    have hsl2 : (seqOf l ss).length ≤ 20000 := by
      have : (1000 + l.length) * ss.length ≤ 1014 * 10 := Nat.mul_le_mul (by omega) (by omega)
      omega
    have hcount := fun n => count_sets l n ss
    have hZl : (ss.map (closOf l)).length = ss.length := by simp
    unfold differOf
    generalize hQ : seqOf l ss = Q at h6 hsl2 hcount ⊢
    generalize ss.map (closOf l) = Z at hh hcount hZl
    have hal := sortedL_lenG Q
    have has := sortedL_sorted Q
    have hres : sortedL (Q.filter (fewIn Q ss.length)) = (sortedL Q).filter (fewIn Q ss.length) := strict_ext (sortedL_sorted _).1 (has.1.filter _) fun n => by rw [(sortedL_sorted _).2, List.mem_filter, List.mem_filter, has.2]
    have hfew : ∀ n, fewIn Q ss.length n = decide ((setsOf Z n : Int) < (ss.length : Int)) := fun n => by unfold fewIn; rw [hcount n]
    rw [hres]
    generalize sortedL Q = A at h6 hal ⊢
    have hAm : A.length ≤ maxLen := by unfold maxLen; omega
    have hZm : Z.length ≤ maxLen := by unfold maxLen; omega
    simp [go_sem, h0, h1, h5, hv, hh, h6, h7, hlt]
    refine AWp.ownNil 9 3 1 (by simp [go_sem]) ?_
    refine AWp.freeze 5 ?_
    refine AWp.loop_vc [] (fun m s => ∃ (i v : Nat), m = A.length - i ∧ i ≤ A.length ∧ s.σ 5 = .lst 1 (Z.map ints) ∧ s.σ 6 = ints A ∧ s.σ 9 = .ref 9 v ∧ s.ver 9 = v ∧ s.h 9 = .arr 3 1 (((A.take i).filter (fewIn Q ss.length)).map I) ∧ s.σ 10 = I i) A.length ⟨0, _, by simp [go_sem, h5, hv, hh, h6]; rfl⟩ ?_
    clear h0 h1 h5 hv hh h6 h7 hlt
    rintro m s ⟨i, v, rfl, hi, h5, h6, h9, hv, hh, h10⟩
    by_cases hlt : i < A.length
    · have hsu := filter_take3 (fewIn Q ss.length) A i hlt
      have hfl : ((A.take i).filter (fewIn Q ss.length)).length ≤ 20000 := by
        have := List.length_filter_le (fewIn Q ss.length) (A.take i)
        rw [List.length_take] at this; omega
      rw [hfew A[i]] at hsu
      generalize (A.take i).filter (fewIn Q ss.length) = X at hh hsu hfl
      simp [go_sem, h5, h6, h9, hv, hh, h10, hlt]
      refine AWp.loop_vc [] (fun m s => ∃ (q : Nat), m = Z.length - q ∧ q ≤ Z.length ∧ s.σ 5 = .lst 1 (Z.map ints) ∧ s.σ 6 = ints A ∧ s.σ 9 = .ref 9 v ∧ s.ver 9 = v ∧ s.h 9 = .arr 3 1 (X.map I) ∧ s.σ 10 = I i ∧ s.σ 11 = I (setsOf (Z.take q) A[i]) ∧ s.σ 12 = I q) Z.length ⟨0, by simp [go_sem, h5, h6, h9, hv, hh, h10, setsOf]⟩ ?_
      clear h5 h6 h9 hv hh h10
      rintro m s ⟨q, rfl, hq, h5, h6, h9, hv, hh, h10, h11, h12⟩
      by_cases hlq : q < Z.length
      · have hss := setsOf_succ (n := A[i]) hlq
        have hsle := setsOf_le (Z.take q) A[i]
        rw [List.length_take] at hsle
        have hw : IntKind.i64.wrap ((setsOf (Z.take q) A[i] : Int) + 1) = (setsOf (Z.take q) A[i] : Int) + 1 := wrap_i64 (by omega) (by omega)
        generalize setsOf (Z.take q) A[i] = c at h11 hss hw
        simp [go_sem, h5, h6, h9, hv, hh, h10, h11, h12, hlt, hlq]
        refine AWp.drawAll rfl (by kernel_rfl) ?_
        simp [go_sem, h5, h6, h9, hv, hh, h10, h11, h12, hlt, hlq]
        refine CalmThen.pure (r := B (hasCr2 Z[q] A[i])) (has_ac Z[q] A[i]) rfl ?_
        cases hc : hasCr2 Z[q] A[i] with
        | true =>
          rw [hc] at hss
          simp [go_sem, h5, h6, h9, hv, hh, h10, h11, h12, hlt, hlq, hw, wrap_succ hlq hZm]
          exact ⟨Z.length - (q + 1), by omega, q + 1, rfl, by omega, by rw [hss]; simp, rfl⟩
        | false =>
          rw [hc] at hss
          simp [go_sem, h5, h6, h9, hv, hh, h10, h11, h12, hlt, hlq, wrap_succ hlq hZm]
          exact ⟨Z.length - (q + 1), by omega, q + 1, rfl, by omega, by rw [hss]; simp, rfl⟩
      · rw [List.take_of_length_le (by omega)] at h11
        have hN : (Z.length : Int) = (ss.length : Int) := by omega
        by_cases hc : (setsOf Z A[i] : Int) < (ss.length : Int)
        · rw [decide_eq_true hc] at hsu
          rw [← hN] at hc
          simp [go_sem, h5, h6, h9, hv, hh, h10, h11, h12, hlt, hlq, hc, wrap_succ hlt hAm]
          exact ⟨⟨by omega, by omega⟩, A.length - (i + 1), by omega, i + 1, rfl, by omega, by rw [hsu]; simp [I], rfl⟩
        · rw [decide_eq_false hc] at hsu
          rw [← hN] at hc
          simp [go_sem, h5, h6, h9, hv, hh, h10, h11, h12, hlt, hlq, hc, wrap_succ hlt hAm]
          exact ⟨A.length - (i + 1), by omega, i + 1, rfl, by omega, by rw [hsu]; simp, rfl⟩
    · rw [List.take_of_length_le (by omega)] at hh
      simp [go_sem, h5, h6, h9, hv, hh, h10, hlt]
      refine PostR.retW [9] ?_ (.refl _)
      simp [go_sem, h9, hv, hh]
set_option maxRecDepth 8000 in
set_option maxHeartbeats 4000000 in
theorem rfull_ac (l : List Evt) (ss : List (List EntD)) (hl : Fit l) (hn : ss.length ≤ 10) (hs : ∀ s ∈ ss, s.length ≤ 1000) : AC Try.prog 11 [evs l, states ss] (ints (fullsOf (rallOf ss) l ss)) := by
  refine AC.of_body Try.func11 rfl rfl Try.ntmps11 (congrArg Array.toList Try.results11) (by simp) (pures2 (pure_evs _) (pure_states _)) (pureR_ints _) fun w S' => AWp.of_vc [] ?_
  unfold fullsOf
  have hll := hl.len
  have hsl := seqOf_len l ss 1000 hs
  have hdl := differOf_len l ss
  have hdl2 : (differOf l ss).length ≤ 20000 := by
    have : (1000 + l.length) * ss.length ≤ 1014 * 10 := Nat.mul_le_mul (by omega) (by omega)
    omega
  have hil := idsO_len (rallOf ss) hs ss.length (Nat.le_refl _)
  have hil2 := sortedL_lenG (idsO (rallOf ss) ss ss.length)
  simp [go_sem]
  refine CallSem.pure (rsplit_ac ss (by omega) hs) (by simp [go_sem]) ?_
  unfold splitAV
  generalize sortedL (idsO (rallOf ss) ss ss.length) = X at hil2 ⊢
  simp [go_sem]
  refine CallSem.pure (rdiffer_ac l ss hl hn hs) (by simp [go_sem]) ?_
  generalize differOf l ss = D at hdl hdl2 ⊢
  simp [go_sem]
  refine CallSem.pure (runion_ac X D (by omega) (by omega)) (by simp [go_sem]) ?_
  simp [go_sem]
  refine PostR.ret ?_
  simp [go_sem]
theorem fulls_same {ss : List (List EntD)} (h : ∀ s ∈ ss, adj s = true) (l : List Evt) : fullsOf (rallOf ss) l ss = fullsOf (allOf ss) l ss := by
  rw [show rallOf ss = allOf ss from funext fun e => (allOf_eq h e).symm]
end Go.Proofs.Ytabjpmleboeimaa

-- part C5
namespace Go.Proofs.Ytabjpmleboeimaa
open Go Go.Abs
set_option linter.unusedSimpArgs false
set_option linter.unusedVariables false
set_option maxRecDepth 8000 in
set_option maxHeartbeats 4000000 in
theorem sameInts_ac (a b : List Int) : AC Try.prog 9 [ints a, ints b] (B (a == b)) := by
  refine AC.of_body Try.func9 rfl rfl Try.ntmps9 (congrArg Array.toList Try.results9) (by simp) (pures2 (pure_ints _) (pure_ints _)) (pure_B _) fun w S' => AWp.bound 0 rfl fun hlen => AWp.of_vc [] ?_
  rw [ints_len] at hlen
  by_cases hab : a.length = b.length
  case neg =>
    have hab' : ¬ (a.length : Int) = b.length := by omega
    have hb : (a == b) = false := by simpa using fun h : a = b => hab (by rw [h])
    simp [go_sem, hab, hab']
    refine PostR.ret ?_
    simp [go_sem, hb]
  simp [go_sem, hab]
  refine AWp.loop_vc [] (fun m s => ∃ k : Nat, k ≤ a.length ∧ m = a.length - k ∧ s.σ 0 = ints a ∧ s.σ 1 = ints b ∧ s.σ 5 = I k ∧ a.take k = b.take k) a.length ⟨0, by simp [go_sem]⟩ ?_
  rintro m s ⟨k, hk, rfl, h0, h1, h5, hno⟩
  by_cases hlt : k < a.length
  · have hlt' : k < b.length := by omega
    simp [go_sem, h0, h1, h5, hlt, hlt']
    refine AWp.drawAll rfl (by kernel_rfl) ?_
    by_cases hp : a[k] = b[k]
    · simp [go_sem, h0, h1, h5, hlt, hlt', hp, wrap_succ hlt hlen]
      exact ⟨a.length - (k + 1), by omega, k + 1, by omega, rfl, rfl, by rw [List.take_succ_eq_append_getElem hlt, List.take_succ_eq_append_getElem hlt', hno, hp]⟩
    · have hb : (a == b) = false := by
        simp only [beq_eq_false_iff_ne, ne_eq]
        rintro rfl; exact hp rfl
      simp [go_sem, h0, h1, h5, hlt, hlt', hp]
      refine PostR.ret ?_
      simp [go_sem, hb]
  · have hb : (a == b) = true := by
      rw [List.take_of_length_le (by omega), List.take_of_length_le (by omega)] at hno
      simpa using hno
    simp [go_sem, h0, h1, h5, hlt]
    refine PostR.ret ?_
    simp [go_sem, hb]

def Small (ss : List (List EntD)) : Prop := ss.length ≤ 4 ∧ ∀ s ∈ ss, s.length ≤ 20 ∧ ∀ e ∈ s, e.key.length ≤ 100
open Classical in
noncomputable def great17 (ss : List (List EntD)) : Bool := decide (¬ Small ss)
open Classical in
theorem great17_bad {ss : List (List EntD)} (h : ¬ Small ss) : great17 ss = true := by unfold great17; exact decide_eq_true h
open Classical in
theorem great17_good {ss : List (List EntD)} (h : Small ss) : great17 ss = false := by unfold great17; exact decide_eq_false fun hn => hn h
theorem great17_iff {ss : List (List EntD)} : great17 ss = false ↔ Small ss := ⟨fun h => Classical.byContradiction fun hn => (by rw [great17_bad hn] at h; cases h), great17_good⟩
set_option maxRecDepth 8000 in
set_option maxHeartbeats 4000000 in
theorem great17_ac (ss : List (List EntD)) : AC Try.prog 20 [states ss] (B (great17 ss)) := by
  refine AC.of_body Try.func20 rfl rfl Try.ntmps20 (congrArg Array.toList Try.results20) (by simp) (pures1 (pure_states _)) (pure_B _) fun w S' => AWp.of_vc [] ?_
  by_cases g : (4 : Int) < ss.length
  · have hb := great17_bad (ss := ss) fun h => by have := h.1; omega
    simp [go_sem, g]
    refine PostR.ret ?_
    simp [go_sem, hb]
  · have hm : ss.length ≤ maxLen := by unfold maxLen; omega
    simp [go_sem, g]
    refine AWp.loop_vc [] (fun m s => ∃ (k : Nat), m = ss.length - k ∧ k ≤ ss.length ∧ s.σ 0 = states ss ∧ s.σ 3 = I k ∧ ∀ (j : Nat) x, j < k → ss[j]? = some x → x.length ≤ 20 ∧ ∀ e ∈ x, e.key.length ≤ 100) ss.length ⟨0, by simp [go_sem]⟩ ?_
    rintro m s ⟨k, rfl, hk, h0, h3, hyes⟩
    by_cases hlt : k < ss.length
    · by_cases g2 : (20 : Int) < ss[k].length
      · have hb := great17_bad (ss := ss) fun h => by have := (h.2 _ (List.getElem_mem hlt)).1; omega
        simp [go_sem, h0, h3, hlt, g2]
        refine PostR.ret ?_
        simp [go_sem, hb]
      · have hm2 : ss[k].length ≤ maxLen := by unfold maxLen; omega
        simp [go_sem, h0, h3, hlt, g2]
        refine AWp.loop_vc [] (fun m s => ∃ (q : Nat), m = ss[k].length - q ∧ q ≤ ss[k].length ∧ s.σ 0 = states ss ∧ s.σ 3 = I k ∧ s.σ 4 = I q ∧ ∀ (j : Nat) e, j < q → ss[k][j]? = some e → e.key.length ≤ 100) ss[k].length ⟨0, by simp [go_sem, h0, h3]⟩ ?_
        clear h0 h3
        rintro m s ⟨q, rfl, hq, h0, h3, h4, hyes2⟩
        by_cases hlq : q < ss[k].length
        · by_cases g3 : (100 : Int) < ss[k][q].key.length
          · have hb := great17_bad (ss := ss) fun h => by have := (h.2 _ (List.getElem_mem hlt)).2 _ (List.getElem_mem hlq); omega
            simp [go_sem, h0, h3, h4, hlt, hlq, g3]
            refine PostR.ret ?_
            simp [go_sem, hb]
          · simp [go_sem, h0, h3, h4, hlt, hlq, g3, wrap_succ hlq hm2]
            exact ⟨ss[k].length - (q + 1), by omega, q + 1, rfl, by omega, rfl, below_step' hlq hyes2 (by omega)⟩
        · simp [go_sem, h0, h3, h4, hlt, hlq, wrap_succ hlt hm]
          exact ⟨ss.length - (k + 1), by omega, k + 1, rfl, by omega, rfl, below_step' hlt hyes ⟨by omega, mem_below fun j x hj hx => hyes2 j x (by omega) hx⟩⟩
    · have hb := great17_good (ss := ss) ⟨by omega, mem_below fun j x hj hx => hyes j x (by omega) hx⟩
      simp [go_sem, h0, h3, hlt]
      refine PostR.ret ?_
      simp [go_sem, hb]
noncomputable def bad17 (l : List Evt) (ss : List (List EntD)) : Bool := greatOf l 14 || (great17 ss || ss.any fun s => !(checkOf s == 0))

theorem bad17_spec {l : List Evt} {ss : List (List EntD)} (h : bad17 l ss = false) : Fit l ∧ Small ss ∧ ∀ s ∈ ss, adj s = true := by
  unfold bad17 at h
  simp only [Bool.or_eq_false_iff] at h
  obtain ⟨h1, h2, h3⟩ := h
  obtain ⟨g1, g2⟩ := greatOf_iff.1 h1
  refine ⟨⟨g1, fun e he => (g2 e he).a0, fun e he => (g2 e he).a1⟩, great17_iff.1 h2, fun s hs => ?_⟩
  have := List.any_eq_false.1 h3 s hs
  simp at this
  exact (check_zero.1 this).1
set_option maxRecDepth 8000 in
set_option maxHeartbeats 4000000 in
theorem bad17_ac (l : List Evt) (ss : List (List EntD)) : AC Try.prog 7 [evs l, states ss] (B (bad17 l ss)) := by
  refine AC.of_body Try.func7 rfl rfl Try.ntmps7 (congrArg Array.toList Try.results7) (by simp) (pures2 (pure_evs _) (pure_states _)) (pure_B _) fun w S' => AWp.of_vc [] ?_
  unfold bad17
  simp [go_sem]
  refine CallSem.pure (great_ac l) (by simp [go_sem]) ?_
  cases hG : greatOf l 14 with
  | true =>
    simp [go_sem]
    refine PostR.ret ?_
    simp [go_sem]
  | false =>
    simp [go_sem]
    refine CallSem.pure (great17_ac ss) (by simp [go_sem]) ?_
    cases hS : great17 ss with
    | true =>
      simp [go_sem]
      refine PostR.ret ?_
      simp [go_sem]
    | false =>
      have hsm := great17_iff.1 hS
      have hm : ss.length ≤ maxLen := by have := hsm.1; unfold maxLen; omega
      simp [go_sem]
      refine AWp.loop_vc [] (fun m s => ∃ (k : Nat), m = ss.length - k ∧ k ≤ ss.length ∧ s.σ 1 = states ss ∧ s.σ 5 = I k ∧ AllUp (fun s => checkOf s == 0) ss k) ss.length ⟨0, by simp [go_sem, AllUp.zero]⟩ ?_
      rintro m s ⟨k, rfl, hk, h1, h5, hup⟩
      by_cases hlt : k < ss.length
      · simp [go_sem, h1, h5, hlt]
        refine CallSem.pure (rcheck_ac ss[k]) (by simp [go_sem]) ?_
        by_cases hc : checkOf ss[k] = 0
        · simp [go_sem, h1, h5, hlt, hc, wrap_succ hlt hm]
          exact ⟨ss.length - (k + 1), by omega, k + 1, rfl, by omega, rfl, hup.succ hlt (by simpa using hc)⟩
        · have hb : (ss.any fun s => !(checkOf s == 0)) = true := List.any_eq_true.2 ⟨_, List.getElem_mem hlt, by simpa using hc⟩
          simp [go_sem, h1, h5, hlt, hc]
          refine PostR.ret ?_
          simp [go_sem]
          simpa using hb
      · have hb : (ss.any fun s => !(checkOf s == 0)) = false := by
          have := List.all_eq_true.1 (hup.full hlt)
          rw [List.any_eq_false]
          intro s hs; have := this s hs; simpa using this
        simp [go_sem, h1, h5, hlt]
        refine PostR.ret ?_
        simp [go_sem]
        simpa using hb

def e17a : Evt := { evZ with id := 1 }
def e17b : Evt := { evZ with id := 2, auth := [1] }
def e17c : Evt := { evZ with id := 3, auth := [1] }
def e17d : Evt := { evZ with id := 4, auth := [1, 3] }
def ex17 : List Evt := [e17a, e17b, e17c, e17d]
def s17a : List EntD := [⟨1, [], 1⟩, ⟨7, [], 2⟩]
def s17b : List EntD := [⟨1, [], 1⟩, ⟨7, [], 4⟩]
def s17c : List EntD := [⟨1, [], 1⟩]
theorem ex17_fit : Fit ex17 := ⟨by decide, by decide, by decide⟩
theorem ex17_ca : chainOf ex17 [1, 2] = [1] := by
  unfold chainOf
  have : firstOf ex17 [1, 2] = [1] := by decide
  rw [this]
  exact (itR_end (by decide) (by decide)).symm.trans (by decide)
theorem ex17_cb : chainOf ex17 [1, 4] = [1, 3] := by
  unfold chainOf
  have : firstOf ex17 [1, 4] = [1, 3] := by decide
  rw [this]
  exact (itR_end (by decide) (by decide)).symm.trans (by decide)
theorem ex17_cc : chainOf ex17 [1] = [] := by
  unfold chainOf
  have : firstOf ex17 [1] = [] := by decide
  rw [this]
  exact (itR_end (by decide) (by decide)).symm.trans (by decide)
theorem ex17_A : closOf ex17 s17a = [1, 2] := by
  unfold closOf
  rw [show eids s17a = [1, 2] from rfl, ex17_ca, sortedSet_eq]; decide
theorem ex17_B : closOf ex17 s17b = [1, 3, 4] := by
  unfold closOf
  rw [show eids s17b = [1, 4] from rfl, ex17_cb, sortedSet_eq]; decide
theorem ex17_C : closOf ex17 s17c = [1] := by
  unfold closOf
  rw [show eids s17c = [1] from rfl, ex17_cc, sortedSet_eq]; decide
theorem ex17_d1 : differOf ex17 [s17a, s17b] = [2, 3, 4] := by
  have : seqOf ex17 [s17a, s17b] = [1, 2, 1, 3, 4] := by simp [seqOf, ex17_A, ex17_B]
  unfold differOf; rw [this]; decide
theorem ex17_d2 : differOf ex17 [s17a, s17a] = [] := by
  have : seqOf ex17 [s17a, s17a] = [1, 2, 1, 2] := by simp [seqOf, ex17_A]
  unfold differOf; rw [this]; decide
theorem ex17_d3 : differOf ex17 [s17a] = [] := by
  have : seqOf ex17 [s17a] = [1, 2] := by simp [seqOf, ex17_A]
  unfold differOf; rw [this]; decide
theorem ex17_d4 : differOf ex17 [s17a, s17c] = [2] := by
  have : seqOf ex17 [s17a, s17c] = [1, 2, 1] := by simp [seqOf, ex17_A, ex17_C]
  unfold differOf; rw [this]; decide
theorem ex17_f1 : fullsOf (allOf [s17a, s17b]) ex17 [s17a, s17b] = [2, 3, 4] := by unfold fullsOf; rw [ex17_d1]; decide
theorem ex17_f2 : fullsOf (allOf [s17a, s17a]) ex17 [s17a, s17a] = [] := by unfold fullsOf; rw [ex17_d2]; decide
theorem ex17_f3 : fullsOf (allOf [s17a]) ex17 [s17a] = [] := by unfold fullsOf; rw [ex17_d3]; decide
theorem ex17_f4 : fullsOf (allOf [s17a, s17c]) ex17 [s17a, s17c] = [2] := by unfold fullsOf; rw [ex17_d4]; decide
set_option maxRecDepth 8000 in
set_option maxHeartbeats 4000000 in
theorem awake_ac  : AC Try.prog 8 [] (B true) := by
  refine AC.of_body Try.func8 rfl rfl Try.ntmps8 (congrArg Array.toList Try.results8) (by simp) (pures0) (pure_B _) fun w S' => AWp.of_vc [] ?_
  simp [go_sem]
  refine CallSem.by (full_ac ex17 [s17a, s17b] ex17_fit (by decide) (by decide)) ⟨wk_evsL ex17, .refl _, trivial⟩ (by simp [go_sem]) ?_
  rw [ex17_f1]
  simp [go_sem]
  refine CallSem.pure (sameInts_ac [2, 3, 4] [2, 3, 4]) (by simp [go_sem]) ?_
  simp [go_sem]
  refine CallSem.by (differ_ac ex17 [s17a, s17b] ex17_fit (by decide) (by decide)) ⟨wk_evsL ex17, .refl _, trivial⟩ (by simp [go_sem]) ?_
  rw [ex17_d1]
  simp [go_sem]
  refine CallSem.pure (sameInts_ac [2, 3, 4] [2, 3, 4]) (by simp [go_sem]) ?_
  simp [go_sem]
  refine CallSem.by (full_ac ex17 [s17a, s17a] ex17_fit (by decide) (by decide)) ⟨wk_evsL ex17, .refl _, trivial⟩ (by simp [go_sem]) ?_
  rw [ex17_f2]
  simp [go_sem]
  refine CallSem.by (full_ac ex17 [s17a] ex17_fit (by decide) (by decide)) ⟨wk_evsL ex17, .refl _, trivial⟩ (by simp [go_sem]) ?_
  rw [ex17_f3]
  simp [go_sem]
  refine CallSem.by (full_ac ex17 [s17a, s17c] ex17_fit (by decide) (by decide)) ⟨wk_evsL ex17, .refl _, trivial⟩ (by simp [go_sem]) ?_
  rw [ex17_f4]
  simp [go_sem]
  refine CallSem.pure (sameInts_ac [2] [2]) (by simp [go_sem]) ?_
  simp [go_sem]
  refine PostR.ret ?_
  simp [go_sem]

end Go.Proofs.Ytabjpmleboeimaa

-- part C6
namespace Go.Proofs.Ytabjpmleboeimaa
open Go Go.Abs
set_option linter.unusedSimpArgs false
set_option linter.unusedVariables false
theorem setsOf_lt {Z : List (List Int)} {n : Int} : setsOf Z n < Z.length ↔ ∃ c ∈ Z, hasCr2 c n = false := by
  unfold setsOf
  rw [← Nat.not_le]
  constructor
  · intro h
    apply Classical.byContradiction
    intro hno
    refine h ?_
    rw [List.filter_eq_self.2 fun c hc => ?_]
    · exact Nat.le_refl _
    · cases hb : hasCr2 c n with
      | true => rfl
      | false => exact absurd ⟨c, hc, hb⟩ hno
  · rintro ⟨c, hc, hb⟩ hle
    have h1 : (Z.filter fun c => hasCr2 c n).length = Z.length := Nat.le_antisymm (List.length_filter_le _ _) hle
    have h2 := List.length_filter_eq_length_iff.1 h1 c hc
    rw [hb] at h2; cases h2
theorem mem_differ {l : List Evt} {ss : List (List EntD)} {n : Int} : n ∈ differOf l ss ↔ (∃ s ∈ ss, n ∈ closOf l s) ∧ ∃ s ∈ ss, n ∉ closOf l s := by
  unfold differOf
  rw [(sortedL_sorted _).2, List.mem_filter]
  refine and_congr ?_ ?_
  · unfold seqOf; rw [List.mem_flatMap]
  · unfold fewIn
    rw [count_sets, decide_eq_true_eq]
    have : ((setsOf (ss.map (closOf l)) n : Int) < (ss.length : Int)) ↔ setsOf (ss.map (closOf l)) n < (ss.map (closOf l)).length := by rw [List.length_map]; omega
    rw [this, setsOf_lt]
    constructor
    · rintro ⟨c, hc, hb⟩
      obtain ⟨s, hs, rfl⟩ := List.mem_map.1 hc
      exact ⟨s, hs, by simpa [hasCr2] using hb⟩
    · rintro ⟨s, hs, hb⟩
      exact ⟨_, List.mem_map.2 ⟨s, hs, rfl⟩, by simpa [hasCr2] using hb⟩
theorem differ_sorted (l : List Evt) (ss : List (List EntD)) : (differOf l ss).Pairwise (· < ·) := (sortedL_sorted _).1
theorem differ_congr {l : List Evt} {a b : List (List EntD)} (h : ∀ s, s ∈ a ↔ s ∈ b) : differOf l a = differOf l b :=
  strict_ext (differ_sorted _ _) (differ_sorted _ _) fun n => by rw [mem_differ, mem_differ]; simp only [h]
theorem allOf_congr {a b : List (List EntD)} (h : ∀ s, s ∈ a ↔ s ∈ b) : allOf a = allOf b := by
  funext e
  unfold allOf
  rw [Bool.eq_iff_iff, List.all_eq_true, List.all_eq_true]
  simp only [h]
theorem mem_idsO {a : EntD → Bool} {ss : List (List EntD)} {n : Int} : n ∈ idsO a ss ss.length ↔ ∃ s ∈ ss, n ∈ idsS a s := by
  unfold idsO; rw [List.take_length, List.mem_flatMap]
theorem ids_congr {a b : List (List EntD)} (h : ∀ s, s ∈ a ↔ s ∈ b) : sortedL (idsO (allOf a) a a.length) = sortedL (idsO (allOf b) b b.length) :=
  strict_ext (sortedL_sorted _).1 (sortedL_sorted _).1 fun n => by rw [(sortedL_sorted _).2, (sortedL_sorted _).2, mem_idsO, mem_idsO, allOf_congr h]; simp only [h]
theorem fulls_congr {l : List Evt} {a b : List (List EntD)} (h : ∀ s, s ∈ a ↔ s ∈ b) : fullsOf (allOf a) l a = fullsOf (allOf b) l b := by
  unfold fullsOf; rw [ids_congr h, differ_congr h]
theorem differ_same {l : List Evt} {ss : List (List EntD)} {s : List EntD} (h : ∀ x ∈ ss, x = s) : differOf l ss = [] := by
  rw [List.eq_nil_iff_forall_not_mem]
  intro n hn
  obtain ⟨⟨x, hx, h1⟩, y, hy, h2⟩ := mem_differ.1 hn
  rw [h x hx] at h1; rw [h y hy] at h2
  exact h2 h1
theorem ids_same {ss : List (List EntD)} {s : List EntD} (ha : adj s = true) (h : ∀ x ∈ ss, x = s) : sortedL (idsO (allOf ss) ss ss.length) = [] := by
  rw [List.eq_nil_iff_forall_not_mem]
  intro n hn
  rw [(sortedL_sorted _).2, mem_idsO] at hn
  obtain ⟨x, hx, h1⟩ := hn
  unfold idsS at h1
  obtain ⟨e, he, _⟩ := List.mem_map.1 h1
  rw [List.mem_filter] at he
  obtain ⟨he, hno⟩ := he
  rw [h x hx] at he
  have : allOf ss e = true := by
    unfold allOf
    rw [List.all_eq_true]
    intro y hy
    rw [h y hy, get_self ha he]; simp
  rw [this] at hno; cases hno
theorem fulls_same1 {l : List Evt} {ss : List (List EntD)} {s : List EntD} (ha : adj s = true) (h : ∀ x ∈ ss, x = s) : fullsOf (allOf ss) l ss = [] := by
  unfold fullsOf; rw [ids_same ha h, differ_same h]; rfl
theorem small_fit {ss : List (List EntD)} (h : Small ss) : ss.length ≤ 10 ∧ ∀ s ∈ ss, s.length ≤ 1000 := ⟨by have := h.1; omega, fun s hs => by have := (h.2 s hs).1; omega⟩
set_option maxRecDepth 8000 in
set_option maxHeartbeats 4000000 in
theorem fulls17_law (l : List Evt) (ss : List (List EntD)) : AC Try.prog 3 [evs l, states ss] (B true) := by
  refine AC.of_body Try.func3 rfl rfl Try.ntmps3 (congrArg Array.toList Try.results3) (by simp) (pures2 (pure_evs _) (pure_states _)) (pure_B _) fun w S' => AWp.of_vc [] ?_
  simp [go_sem]
  refine CallSem.pure (bad17_ac l ss) (by simp [go_sem]) ?_
  cases hb : bad17 l ss with
  | true =>
    simp [go_sem]
    refine CallSem.pure awake_ac (by simp [go_sem]) ?_
    simp [go_sem]
    refine PostR.ret ?_
    simp [go_sem]
  | false =>
    obtain ⟨hl, hsm, hadj⟩ := bad17_spec hb
    obtain ⟨hn, hs⟩ := small_fit hsm
    simp [go_sem]
    refine CallSem.pure (full_ac l ss hl hn hs) (by simp [go_sem]) ?_
    simp [go_sem]
    refine CallSem.pure (rfull_ac l ss hl hn hs) (by simp [go_sem]) ?_
    rw [fulls_same hadj l]
    generalize fullsOf (allOf ss) l ss = F
    simp [go_sem]
    refine CallSem.pure (sameInts_ac F F) (by simp [go_sem]) ?_
    simp [go_sem]
    refine CallSem.pure awake_ac (by simp [go_sem]) ?_
    simp [go_sem]
    refine PostR.ret ?_
    simp [go_sem]

set_option maxRecDepth 8000 in
set_option maxHeartbeats 4000000 in
theorem differs17_law (l : List Evt) (ss : List (List EntD)) : AC Try.prog 4 [evs l, states ss] (B true) := by
  refine AC.of_body Try.func4 rfl rfl Try.ntmps4 (congrArg Array.toList Try.results4) (by simp) (pures2 (pure_evs _) (pure_states _)) (pure_B _) fun w S' => AWp.of_vc [] ?_
  simp [go_sem]
  refine CallSem.pure (bad17_ac l ss) (by simp [go_sem]) ?_
  cases hb : bad17 l ss with
  | true =>
    simp [go_sem]
    refine CallSem.pure awake_ac (by simp [go_sem]) ?_
    simp [go_sem]
    refine PostR.ret ?_
    simp [go_sem]
  | false =>
    obtain ⟨hl, hsm, hadj⟩ := bad17_spec hb
    obtain ⟨hn, hs⟩ := small_fit hsm
    simp [go_sem]
    refine CallSem.pure (differ_ac l ss hl hn hs) (by simp [go_sem]) ?_
    simp [go_sem]
    refine CallSem.pure (rdiffer_ac l ss hl hn hs) (by simp [go_sem]) ?_
    generalize differOf l ss = F
    simp [go_sem]
    refine CallSem.pure (sameInts_ac F F) (by simp [go_sem]) ?_
    simp [go_sem]
    refine CallSem.pure awake_ac (by simp [go_sem]) ?_
    simp [go_sem]
    refine PostR.ret ?_
    simp [go_sem]

theorem minus_none17 {a b : List Int} (h : ∀ n ∈ a, n ∈ b) : minusOf a b = [] := by
  unfold minusOf hasI
  rw [List.filter_eq_nil_iff]
  intro n hn
  have := h n ((sortedL_sorted a).2 n |>.1 hn)
  simp [this]
theorem sortedL_id {a : List Int} (h : a.Pairwise (· < ·)) : sortedL a = a := strict_ext (sortedL_sorted _).1 h fun n => by rw [(sortedL_sorted _).2]
theorem mem_fulls {l : List Evt} {a : EntD → Bool} {ss : List (List EntD)} {n : Int} : n ∈ fullsOf a l ss ↔ n ∈ sortedL (idsO a ss ss.length) ∨ n ∈ differOf l ss := by
  unfold fullsOf; rw [(sortedL_sorted _).2, List.mem_append]
theorem fulls_in {l : List Evt} {a : EntD → Bool} {ss : List (List EntD)} {n : Int} (h : n ∈ fullsOf a l ss) : n ∈ seqOf l ss := by
  unfold seqOf
  rw [List.mem_flatMap]
  rcases mem_fulls.1 h with h | h
  · rw [(sortedL_sorted _).2, mem_idsO] at h
    obtain ⟨s, hs, hn⟩ := h
    refine ⟨s, hs, ?_⟩
    unfold closOf
    rw [(sortedSet_sorted _).2, List.mem_append]
    unfold idsS at hn
    obtain ⟨e, he, rfl⟩ := List.mem_map.1 hn
    exact .inl (List.mem_map.2 ⟨e, (List.mem_filter.1 he).1, rfl⟩)
  · exact (mem_differ.1 h).1
set_option maxRecDepth 8000 in
set_option maxHeartbeats 4000000 in
theorem bounds17_law (l : List Evt) (ss : List (List EntD)) : AC Try.prog 6 [evs l, states ss] (B true) := by
  refine AC.of_body Try.func6 rfl rfl Try.ntmps6 (congrArg Array.toList Try.results6) (by simp) (pures2 (pure_evs _) (pure_states _)) (pure_B _) fun w S' => AWp.of_vc [] ?_
  simp [go_sem]
  refine CallSem.pure (bad17_ac l ss) (by simp [go_sem]) ?_
  cases hb : bad17 l ss with
  | true =>
    simp [go_sem]
    refine CallSem.pure awake_ac (by simp [go_sem]) ?_
    simp [go_sem]
    refine PostR.ret ?_
    simp [go_sem]
  | false =>
    obtain ⟨hl, hsm, hadj⟩ := bad17_spec hb
    obtain ⟨hn, hs⟩ := small_fit hsm
    have hll := hl.len
    have hm : ss.length ≤ maxLen := by unfold maxLen; omega
    have hil := idsO_len (allOf ss) hs ss.length (Nat.le_refl _)
    have hil2 := sortedL_lenG (idsO (allOf ss) ss ss.length)
    have hsl := seqOf_len l ss 1000 hs
    have hdl := differOf_len l ss
    have hsl2 : (seqOf l ss).length ≤ 20000 := by
      have : (1000 + l.length) * ss.length ≤ 1014 * 10 := Nat.mul_le_mul (by omega) (by omega)
      omega
    have hfl : (fullsOf (allOf ss) l ss).length ≤ 40000 := by
      unfold fullsOf
      have := sortedL_lenG (sortedL (idsO (allOf ss) ss ss.length) ++ differOf l ss)
      rw [List.length_append] at this
      omega
    have hfs : sortedL (fullsOf (allOf ss) l ss) = fullsOf (allOf ss) l ss := sortedL_id (sortedL_sorted _).1
    have hds : sortedL (differOf l ss) = differOf l ss := sortedL_id (differ_sorted _ _)
    have hp1 : minusOf (fullsOf (allOf ss) l ss) (sortedL (differOf l ss ++ sortedL (idsO (allOf ss) ss ss.length))) = [] := minus_none17 fun n hn => by
      rw [(sortedL_sorted _).2, List.mem_append]
      exact (mem_fulls.1 hn).symm
    have hp2 : minusOf (differOf l ss) (fullsOf (allOf ss) l ss) = [] := minus_none17 fun n hn => mem_fulls.2 (.inr hn)
    have hp3 : minusOf (sortedL (idsO (allOf ss) ss ss.length)) (fullsOf (allOf ss) l ss) = [] := minus_none17 fun n hn => mem_fulls.2 (.inl hn)
    have hp4 : minusOf (fullsOf (allOf ss) l ss) (sortedL (seqOf l ss)) = [] := minus_none17 fun n hn => by
      rw [(sortedL_sorted _).2]; exact fulls_in hn
    simp [go_sem]
    refine CallSem.pure (full_ac l ss hl hn hs) (by simp [go_sem]) ?_
    generalize fullsOf (allOf ss) l ss = F at hfl hfs hp1 hp2 hp3 hp4 ⊢
    simp [go_sem]
    refine CallSem.pure (differ_ac l ss hl hn hs) (by simp [go_sem]) ?_
    generalize differOf l ss = D at hdl hds hp1 hp2 ⊢
    simp [go_sem]
    refine CallSem.pure (split_ac ss (by omega) hs) (by simp [go_sem]) ?_
    unfold splitAV
    generalize sortedL (idsO (allOf ss) ss ss.length) = P at hil2 hp1 hp3 ⊢
    simp [go_sem]
    refine CallSem.pure (runion_ac D P (by omega) (by omega)) (by simp [go_sem]) ?_
    simp [go_sem]
    refine CallSem.pure (rminus_ac F (sortedL (D ++ P)) (by omega)) (by simp [go_sem]) ?_
    rw [hp1]
    simp [go_sem]
    refine CallSem.pure (rminus_ac D F (by omega)) (by simp [go_sem]) ?_
    rw [hp2]
    simp [go_sem]
    refine CallSem.pure (rminus_ac P F (by omega)) (by simp [go_sem]) ?_
    rw [hp3]
    simp [go_sem]
    refine CallSem.pure (sorted_ac F (by omega)) (by simp [go_sem]) ?_
    rw [hfs]
    simp [go_sem]
    refine CallSem.pure (sameInts_ac F F) (by simp [go_sem]) ?_
    simp [go_sem]
    refine CallSem.pure (sorted_ac D (by omega)) (by simp [go_sem]) ?_
    rw [hds]
    simp [go_sem]
    refine CallSem.pure (sameInts_ac D D) (by simp [go_sem]) ?_
    simp [go_sem]
    refine AWp.nilLst 9 1 (by simp [go_sem]) ?_
    refine AWp.loop_vc [] (fun m s => ∃ (k : Nat), m = ss.length - k ∧ k ≤ ss.length ∧ s.σ 0 = evs l ∧ s.σ 1 = states ss ∧ s.σ 5 = ints F ∧ s.σ 9 = ints (sortedL (seqOf l (ss.take k))) ∧ s.σ 10 = I k) ss.length ⟨0, by simp [go_sem, seqOf, sortedL]⟩ ?_
    rintro m s ⟨k, rfl, hk, h0, h1, h5, h9, h10⟩
    by_cases hlt : k < ss.length
    · have hsk := hs _ (List.getElem_mem hlt)
      have hsu := seqOf_succ l hlt
      have hl1 := seqOf_len l (ss.take k) 1000 fun x hx => hs x (List.mem_of_mem_take hx)
      have hl2 : (seqOf l (ss.take k)).length ≤ 20000 := by
        rw [List.length_take] at hl1
        have : (1000 + l.length) * (min k ss.length) ≤ 1014 * 10 := Nat.mul_le_mul (by omega) (by omega)
        omega
      have hcl := closOf_len l ss[k]
      simp [go_sem, h0, h1, h5, h9, h10, hlt]
      refine CallSem.pure (rclosure_ac l ss[k] hl hsk) (by simp [go_sem]) ?_
      generalize seqOf l (ss.take k) = X at h9 hsu hl2
      generalize closOf l ss[k] = Y at hsu hcl ⊢
      have hxl := sortedL_lenG X
      simp [go_sem, h0, h1, h5, h9, h10, hlt]
      refine CallSem.pure (runion_ac (sortedL X) Y (by omega) (by omega)) (by simp [go_sem]) ?_
      rw [union_step, ← hsu]
      simp [go_sem, h0, h1, h5, h9, h10, hlt, wrap_succ hlt hm]
      exact ⟨ss.length - (k + 1), by omega, k + 1, rfl, by omega, rfl, rfl⟩
    · rw [List.take_of_length_le (by omega)] at h9
      generalize sortedL (seqOf l ss) = A at h9 hp4
      simp [go_sem, h0, h1, h5, h9, h10, hlt]
      refine CallSem.pure (rminus_ac F A (by omega)) (by simp [go_sem]) ?_
      rw [hp4]
      simp [go_sem, h0, h1, h5, h9, h10, hlt]
      refine CallSem.pure awake_ac (by simp [go_sem]) ?_
      simp [go_sem]
      refine PostR.ret ?_
      simp [go_sem]

end Go.Proofs.Ytabjpmleboeimaa

-- part C7
namespace Go.Proofs.Ytabjpmleboeimaa
open Go Go.Abs
set_option linter.unusedSimpArgs false
set_option linter.unusedVariables false
def otherAt (ss : List (List EntD)) (t i : Nat) : List (List EntD) := ss.getD ((ss.length - 1 - i + t) % ss.length) [] :: if i % 2 = 0 then [ss.getD i []] else []
def otherUp (ss : List (List EntD)) (t k : Nat) : List (List EntD) := (List.range k).flatMap (otherAt ss t)
theorem otherUp_succ (ss : List (List EntD)) (t k : Nat) : otherUp ss t (k + 1) = otherUp ss t k ++ otherAt ss t k := by
  unfold otherUp; rw [List.range_succ, List.flatMap_append]; simp
theorem otherUp_len (ss : List (List EntD)) (t : Nat) : ∀ k, (otherUp ss t k).length ≤ 2 * k
  | 0 => by simp [otherUp]
  | k + 1 => by
    have ih := otherUp_len ss t k
    rw [otherUp_succ, List.length_append]
    have : (otherAt ss t k).length ≤ 2 := by unfold otherAt; split <;> simp
    omega
theorem turn_mod {N t j : Nat} (hj : j < N) : (N - 1 - (N - 1 - j + t) % N + t) % N = j := by
  have hr : (N - 1 - j + t) % N < N := Nat.mod_lt _ (by omega)
  have hd := Nat.div_add_mod (N - 1 - j + t) N
  have hc : N - 1 - (N - 1 - j + t) % N + t = j + N * ((N - 1 - j + t) / N) := by
    generalize N * ((N - 1 - j + t) / N) = P at hd ⊢
    generalize (N - 1 - j + t) % N = r at hd hr ⊢
    omega
  rw [hc, Nat.add_mul_mod_self_left]
  exact Nat.mod_eq_of_lt hj
theorem getD_mem {ss : List (List EntD)} {i : Nat} (h : i < ss.length) : ss.getD i [] = ss[i] := by simp [List.getD, List.getElem?_eq_getElem h]
theorem mem_other {ss : List (List EntD)} {t : Nat} : ∀ s, s ∈ otherUp ss t ss.length ↔ s ∈ ss := fun s => by
  unfold otherUp
  rw [List.mem_flatMap]
  constructor
  · rintro ⟨i, hi, h⟩
    rw [List.mem_range] at hi
    unfold otherAt at h
    rcases List.mem_cons.1 h with rfl | h
    · rw [getD_mem (Nat.mod_lt _ (by omega))]; exact List.getElem_mem _
    · split at h
      · simp only [List.mem_singleton] at h
        rw [h, getD_mem hi]; exact List.getElem_mem _
      · cases h
  · intro h
    obtain ⟨j, hj, rfl⟩ := List.mem_iff_getElem.1 h
    refine ⟨(ss.length - 1 - j + t) % ss.length, List.mem_range.2 (Nat.mod_lt _ (by omega)), ?_⟩
    unfold otherAt
    rw [turn_mod hj, getD_mem hj]
    exact List.mem_cons_self ..
theorem pure_u8 (n : Int) : Pure (.v (.int .u8 n)) := pure_v _
set_option maxRecDepth 8000 in
set_option maxHeartbeats 4000000 in
theorem orders17_law (l : List Evt) (ss : List (List EntD)) (t : Nat) (ht : t ≤ 255) : AC Try.prog 5 [evs l, states ss, .v (.int .u8 (t : Int))] (B true) := by
  refine AC.of_body Try.func5 rfl rfl Try.ntmps5 (congrArg Array.toList Try.results5) (by simp) (pures3 (pure_evs _) (pure_states _) (pure_u8 _)) (pure_B _) fun w S' => AWp.of_vc [] ?_
  simp [go_sem]
  refine CallSem.pure (bad17_ac l ss) (by simp [go_sem]) ?_
  cases hb : bad17 l ss with
  | true =>
    simp [go_sem]
    refine CallSem.pure awake_ac (by simp [go_sem]) ?_
    simp [go_sem]
    refine PostR.ret ?_
    simp [go_sem]
  | false =>
    obtain ⟨hl, hsm, hadj⟩ := bad17_spec hb
    obtain ⟨hn, hs⟩ := small_fit hsm
    have hn4 := hsm.1
    have hm : ss.length ≤ maxLen := by unfold maxLen; omega
    simp [go_sem]
    refine AWp.ownNil 7 30 1 (by simp [go_sem]) ?_
    refine AWp.ownNil 8 30 1 (by simp [go_sem, St.ownNil]) ?_
    refine AWp.loop_vc [] (fun m s => ∃ (k v w : Nat), m = ss.length - k ∧ k ≤ ss.length ∧ s.σ 0 = evs l ∧ s.σ 1 = states ss ∧ s.σ 2 = .v (.int .u8 (t : Int)) ∧ s.σ 7 = .ref 7 v ∧ s.ver 7 = v ∧ s.h 7 = .arr 30 1 ((otherUp ss t k).map ents) ∧ s.σ 8 = .ref 8 w ∧ s.ver 8 = w ∧ s.h 8 = .arr 30 1 ((List.replicate k (ss.getD 0 [])).map ents) ∧ s.σ 9 = I k) ss.length ⟨0, 1, 1, by simp [go_sem, otherUp]⟩ ?_
    rintro m s ⟨k, v, w', rfl, hk, h0, h1, h2, h7, hv7, hh7, h8, hv8, hh8, h9⟩
    by_cases hlt : k < ss.length
    · have hol := otherUp_len ss t k
      have hsu := otherUp_succ ss t k
      obtain ⟨j, hjd⟩ : ∃ j, (ss.length - 1 - k + t) % ss.length = j := ⟨_, rfl⟩
      have hjlt : j < ss.length := by rw [← hjd]; exact Nat.mod_lt _ (by omega)
      have hat : otherAt ss t k = ss[j] :: if k % 2 = 0 then [ss[k]] else [] := by
        unfold otherAt; rw [hjd, getD_mem hjlt, getD_mem hlt]
      have h0m : ss.getD 0 [] = ss[0]'(by omega) := getD_mem (by omega)
      have hpos : 0 < ss.length := by omega
      have hrep : List.replicate (k + 1) (ss.getD 0 []) = List.replicate k (ss.getD 0 []) ++ [ss[0]'(by omega)] := by rw [List.replicate_succ', h0m]
      have hrl : (List.replicate k (ss.getD 0 [])).length = k := by simp
      rw [hat] at hsu
      clear hat
      generalize otherUp ss t k = X at hh7 hol hsu
      have hRin : ∀ r ∈ List.replicate k (ss.getD 0 []), r = ss[0]'(by omega) := fun r hr => by rw [List.eq_of_mem_replicate hr, h0m]
      generalize List.replicate k (ss.getD 0 []) = R at hh8 hrep hrl hRin
      have hw1 : IntKind.i64.wrap ((ss.length : Int) - 1) = (ss.length : Int) - 1 := wrap_pred hm
      have hw2 : IntKind.i64.wrap ((ss.length : Int) - 1 - k) = (ss.length : Int) - 1 - k := wrap_i64 (by omega) (by omega)
      have hw3 : IntKind.i64.wrap ((t : Int)) = t := wrap_i64 (by omega) (by omega)
      have hw4 : IntKind.i64.wrap ((ss.length : Int) - 1 - k + t) = (ss.length : Int) - 1 - k + t := wrap_i64 (by omega) (by omega)
      have hn0 : ¬ (ss.length : Int) = 0 := by omega
      have hne : ¬ ss = [] := by intro h; rw [h] at hpos; simp at hpos
      have hrem : ((ss.length : Int) - 1 - k + t).tmod (ss.length : Int) = (j : Int) := by
        have : ((ss.length : Int) - 1 - k + t) = ((ss.length - 1 - k + t : Nat) : Int) := by omega
        rw [this, ← hjd]; rfl
      have hrem2 : ((k : Int)).tmod 2 = ((k % 2 : Nat) : Int) := rfl
      simp [go_sem, h0, h1, h2, h7, hv7, hh7, h8, hv8, hh8, h9, hlt, hw1, hw2, hw3, hw4, hne, hrem, hjlt]
      refine ⟨⟨by omega, by omega⟩, ?_⟩
      by_cases he : k % 2 = 0
      · have hei : ((k % 2 : Nat) : Int) = 0 := by omega
        rw [if_pos he] at hsu
        simp [go_sem, h0, h1, h2, h7, hv7, hh7, h8, hv8, hh8, h9, hlt, hrem2, hei, hpos, wrap_succ hlt hm]
        refine ⟨⟨by omega, by omega⟩, ⟨by omega, by omega⟩, ss.length - (k + 1), by omega, k + 1, rfl, by omega, ?_, ?_, by omega⟩
        · rw [hsu]; simp [ents]
        · rw [List.replicate_succ', ← hrl]
          have hR : List.map ents R = List.replicate R.length (AV.lst 3 (List.map ent (ss[0]'(by omega)))) := by
            rw [List.eq_replicate_iff]
            refine ⟨by simp, fun b hb' => ?_⟩
            obtain ⟨r, hr, rfl⟩ := List.mem_map.1 hb'
            rw [hRin r hr]; rfl
          rw [hR]
      · have hei : ¬ ((k % 2 : Nat) : Int) = 0 := by omega
        have hei' : ¬ ((k : Int) % 2 = 0) := by omega
        rw [if_neg he] at hsu
        simp [go_sem, h0, h1, h2, h7, hv7, hh7, h8, hv8, hh8, h9, hlt, hrem2, hei, hei', hpos, wrap_succ hlt hm]
        refine ⟨⟨by omega, by omega⟩, ss.length - (k + 1), by omega, k + 1, rfl, by omega, ?_, ?_, by omega⟩
        · rw [hsu]; simp [ents]
        · rw [List.replicate_succ', ← hrl]
          have hR : List.map ents R = List.replicate R.length (AV.lst 3 (List.map ent (ss[0]'(by omega)))) := by
            rw [List.eq_replicate_iff]
            refine ⟨by simp, fun b hb' => ?_⟩
            obtain ⟨r, hr, rfl⟩ := List.mem_map.1 hb'
            rw [hRin r hr]; rfl
          rw [hR]
    · obtain rfl : k = ss.length := by omega
      have hol := otherUp_len ss t ss.length
      have hmem := mem_other (ss := ss) (t := t)
      have hoin : ∀ s ∈ otherUp ss t ss.length, s.length ≤ 1000 := fun s h => hs s ((hmem s).1 h)
      have hrin : ∀ x ∈ List.replicate ss.length (ss.getD 0 []), x = ss.getD 0 [] := fun x hx => List.eq_of_mem_replicate hx
      have hradj : ∀ x ∈ List.replicate ss.length (ss.getD 0 []), x.length ≤ 1000 ∧ adj x = true := fun x hx => by
        rw [List.mem_replicate] at hx
        have hpos : 0 < ss.length := by omega
        rw [hx.2, getD_mem hpos]
        exact ⟨hs _ (List.getElem_mem _), hadj _ (List.getElem_mem _)⟩
      have hrl : (List.replicate ss.length (ss.getD 0 [])).length = ss.length := by simp
      have hf1 : fullsOf (allOf (otherUp ss t ss.length)) l (otherUp ss t ss.length) = fullsOf (allOf ss) l ss := fulls_congr hmem
      have hd1 : differOf l (otherUp ss t ss.length) = differOf l ss := differ_congr hmem
      have hd2 : differOf l (List.replicate ss.length (ss.getD 0 [])) = [] := differ_same hrin
      have hf2 : fullsOf (allOf (List.replicate ss.length (ss.getD 0 []))) l (List.replicate ss.length (ss.getD 0 [])) = [] := by
        cases hz : ss.length with
        | zero => unfold fullsOf; rw [differ_same (s := []) (fun x hx => by simp at hx)]; rfl
        | succ q => exact fulls_same1 (s := ss.getD 0 []) (hradj _ (by rw [hz]; simp)).2 (fun x hx => List.eq_of_mem_replicate hx)
      generalize otherUp ss t ss.length = O at hh7 hol hoin hf1 hd1
      generalize List.replicate ss.length (ss.getD 0 []) = R at hh8 hradj hrl hd2 hf2
      simp [go_sem, h0, h1, h2, h7, hv7, hh7, h8, hv8, hh8, h9]
      refine CallSem.freeze 7 ?_
      refine CallSem.freeze 8 ?_
      simp [go_sem, h0, h1, h2, h7, hv7, hh7, h8, hv8, hh8, h9]
      refine CallSem.pure (full_ac l O hl (by omega) hoin) (by simp [go_sem]) ?_
      rw [hf1]
      simp [go_sem, h0, h1, h2, h7, hv7, hh7, h8, hv8, hh8, h9]
      refine CallSem.pure (full_ac l ss hl hn hs) (by simp [go_sem]) ?_
      generalize fullsOf (allOf ss) l ss = F
      simp [go_sem, h0, h1, h2, h7, hv7, hh7, h8, hv8, hh8, h9]
      refine CallSem.pure (sameInts_ac F F) (by simp [go_sem]) ?_
      simp [go_sem, h0, h1, h2, h7, hv7, hh7, h8, hv8, hh8, h9]
      refine CallSem.pure (differ_ac l O hl (by omega) hoin) (by simp [go_sem]) ?_
      rw [hd1]
      simp [go_sem, h0, h1, h2, h7, hv7, hh7, h8, hv8, hh8, h9]
      refine CallSem.pure (differ_ac l ss hl hn hs) (by simp [go_sem]) ?_
      generalize differOf l ss = D
      simp [go_sem, h0, h1, h2, h7, hv7, hh7, h8, hv8, hh8, h9]
      refine CallSem.pure (sameInts_ac D D) (by simp [go_sem]) ?_
      simp [go_sem, h0, h1, h2, h7, hv7, hh7, h8, hv8, hh8, h9]
      refine CallSem.pure (full_ac l R hl (by omega) (fun x hx => (hradj x hx).1)) (by simp [go_sem]) ?_
      rw [hf2]
      simp [go_sem, h0, h1, h2, h7, hv7, hh7, h8, hv8, hh8, h9]
      refine CallSem.pure (differ_ac l R hl (by omega) (fun x hx => (hradj x hx).1)) (by simp [go_sem]) ?_
      rw [hd2]
      simp [go_sem, h0, h1, h2, h7, hv7, hh7, h8, hv8, hh8, h9]
      refine CallSem.pure awake_ac (by simp [go_sem]) ?_
      simp [go_sem]
      refine PostR.ret ?_
      simp [go_sem]

end Go.Proofs.Ytabjpmleboeimaa

-- part Tp
namespace Go.Proofs.Ytabjpmleboeimaa
open Go Go.Abs
theorem opI : Opens Try.prog 3 (fun n => [I n]) (fun n => IntKind.i64.min ≤ n ∧ n ≤ IntKind.i64.max) := opens_int (by kernel_rfl)
theorem opB : Opens Try.prog 4 (fun n => [B n]) (fun _ => True) := opens_bool (by kernel_rfl)
theorem opS : Opens Try.prog 9 (fun n => [S n]) (fun n => n.length ≤ maxLen) := opens_string (by kernel_rfl)
theorem opInts : Opens Try.prog 27 (fun l => [ints l]) (fun l => ∀ n ∈ l, IntKind.i64.min ≤ n ∧ n ≤ IntKind.i64.max) := opens_slice (by kernel_rfl) (by kernel_rfl) (by decide) opI I (fun _ => rfl)
end Go.Proofs.Ytabjpmleboeimaa

-- part Te
namespace Go.Proofs.Ytabjpmleboeimaa
open Go Go.Abs
theorem opStrsE : Opens Try.prog 42 (fun l => [strs l]) (fun _ => True) := (opens_slice (by kernel_rfl) (by kernel_rfl) (by decide) opS S (fun _ => rfl)).map id (fun _ _ => rfl) (fun _ _ => trivial)
theorem opIntsE : Opens Try.prog 27 (fun l => [ints l]) (fun _ => True) := opInts.map id (fun _ _ => rfl) (fun _ _ => trivial)
theorem opKindE : Opens Try.prog 41 (fun n => [I n]) (fun _ => True) := (opens_int (by kernel_rfl)).map id (fun _ _ => rfl) (fun _ _ => trivial)
theorem opLevel : Opens Try.prog 75 lvc (fun _ => True) := by
  have h := opens_struct Try.underlying75 (by kernel_rfl) (opensFs_cons rfl (by kernel_rfl) (by intros; rfl) opS (opensFs_cons rfl (by kernel_rfl) (by intros; rfl) opI opensFs_nil))
  exact h.map (fun x => ⟨x.1, x.2.1⟩) (fun _ _ => rfl) (fun _ _ => trivial)
theorem opKLevel : Opens Try.prog 123 klc (fun _ => True) := by
  have h := opens_struct Try.underlying123 (by kernel_rfl) (opensFs_cons rfl (by kernel_rfl) (by intros; rfl) opKindE (opensFs_cons rfl (by kernel_rfl) (by intros; rfl) opI opensFs_nil))
  exact h.map (fun x => ⟨x.1, x.2.1⟩) (fun _ _ => rfl) (fun _ _ => trivial)
theorem opUsers : Opens Try.prog 43 (fun l : List Level => [.lst 2 (l.map fun u => .agg (lvc u))]) (fun _ => True) := (opens_slice (by kernel_rfl) (by kernel_rfl) (by decide) opLevel (fun u : Level => .agg (lvc u)) (fun _ => rfl)).map id (fun _ _ => rfl) (fun _ _ => trivial)
theorem opKinds : Opens Try.prog 44 (fun l : List KindLevel => [.lst 2 (l.map fun u => .agg (klc u))]) (fun _ => True) := (opens_slice (by kernel_rfl) (by kernel_rfl) (by decide) opKLevel (fun u : KindLevel => .agg (klc u)) (fun _ => rfl)).map id (fun _ _ => rfl) (fun _ _ => trivial)
theorem opLevels : Opens Try.prog 46 lvsc (fun _ => True) := by
  have h := opens_struct Try.underlying46 (by kernel_rfl) (opensFs_cons rfl (by kernel_rfl) (by intros; rfl) opUsers (opensFs_cons rfl (by kernel_rfl) (by intros; rfl) opKinds (opensFs_cons rfl (by kernel_rfl) (by intros; rfl) opI (opensFs_cons rfl (by kernel_rfl) (by intros; rfl) opI (opensFs_cons rfl (by kernel_rfl) (by intros; rfl) opI (opensFs_cons rfl (by kernel_rfl) (by intros; rfl) opI (opensFs_cons rfl (by kernel_rfl) (by intros; rfl) opI (opensFs_cons rfl (by kernel_rfl) (by intros; rfl) opI (opensFs_cons rfl (by kernel_rfl) (by intros; rfl) opI opensFs_nil)))))))))
  exact h.map (fun x => ⟨x.1, x.2.1, x.2.2.1, x.2.2.2.1, x.2.2.2.2.1, x.2.2.2.2.2.1, x.2.2.2.2.2.2.1, x.2.2.2.2.2.2.2.1, x.2.2.2.2.2.2.2.2.1⟩) (fun _ _ => rfl) (fun _ _ => trivial)
theorem opContent : Opens Try.prog 48 ctc (fun _ => True) := by
  have h := opens_struct Try.underlying48 (by kernel_rfl) (opensFs_cons rfl (by kernel_rfl) (by intros; rfl) opS (opensFs_cons rfl (by kernel_rfl) (by intros; rfl) opI (opensFs_cons rfl (by kernel_rfl) (by intros; rfl) opI (opensFs_cons rfl (by kernel_rfl) (by intros; rfl) opB (opensFs_cons rfl (by kernel_rfl) (by intros; rfl) opS (opensFs_cons rfl (by kernel_rfl) (by intros; rfl) opStrsE (opensFs_cons rfl (by kernel_rfl) (by intros; rfl) opStrsE (opensFs_cons (s1 := 9) rfl (by kernel_rfl) (by intros; rfl) opLevels opensFs_nil))))))))
  exact h.map (fun x => ⟨x.1, x.2.1, x.2.2.1, x.2.2.2.1, x.2.2.2.2.1, x.2.2.2.2.2.1, x.2.2.2.2.2.2.1, x.2.2.2.2.2.2.2.1⟩) (fun _ _ => rfl) (fun _ _ => trivial)
theorem opSig : Opens Try.prog 50 (fun x : Sig => [S x.server, I x.sum]) (fun _ => True) := by
  have h := opens_struct Try.underlying50 (by kernel_rfl) (opensFs_cons rfl (by kernel_rfl) (by intros; rfl) opS (opensFs_cons rfl (by kernel_rfl) (by intros; rfl) opI opensFs_nil))
  exact h.map (fun x => ⟨x.1, x.2.1⟩) (fun _ _ => rfl) (fun _ _ => trivial)
theorem opEvt : Opens Try.prog 52 evc (fun _ => True) := by
  have h := opens_struct Try.underlying52 (by kernel_rfl) (opensFs_cons rfl (by kernel_rfl) (by intros; rfl) opI (opensFs_cons rfl (by kernel_rfl) (by intros; rfl) opS (opensFs_cons rfl (by kernel_rfl) (by intros; rfl) opS (opensFs_cons rfl (by kernel_rfl) (by intros; rfl) opKindE (opensFs_cons rfl (by kernel_rfl) (by intros; rfl) opB (opensFs_cons rfl (by kernel_rfl) (by intros; rfl) opS (opensFs_cons rfl (by kernel_rfl) (by intros; rfl) opI (opensFs_cons rfl (by kernel_rfl) (by intros; rfl) opI (opensFs_cons rfl (by kernel_rfl) (by intros; rfl) opIntsE (opensFs_cons rfl (by kernel_rfl) (by intros; rfl) opIntsE (opensFs_cons (s1 := 16) rfl (by kernel_rfl) (by intros; rfl) opContent (opensFs_cons rfl (by kernel_rfl) (by intros; rfl) opI (opensFs_cons (s1 := 2) rfl (by kernel_rfl) (by intros; rfl) opSig opensFs_nil)))))))))))))
  exact h.map (fun x => ⟨x.1, x.2.1, x.2.2.1, x.2.2.2.1, x.2.2.2.2.1, x.2.2.2.2.2.1, x.2.2.2.2.2.2.1, x.2.2.2.2.2.2.2.1, x.2.2.2.2.2.2.2.2.1, x.2.2.2.2.2.2.2.2.2.1, x.2.2.2.2.2.2.2.2.2.2.1, x.2.2.2.2.2.2.2.2.2.2.2.1, x.2.2.2.2.2.2.2.2.2.2.2.2.1⟩) (fun _ _ => rfl) (fun _ _ => trivial)
theorem opEvts : Opens Try.prog 22 (fun l => [evs l]) (fun _ => True) := (opens_slice (by kernel_rfl) (by kernel_rfl) (by decide) opEvt ev (fun _ => rfl)).map id (fun _ _ => rfl) (fun _ _ => trivial)
end Go.Proofs.Ytabjpmleboeimaa

-- part Tr
namespace Go.Proofs.Ytabjpmleboeimaa
open Go Go.Abs
theorem opKind : Opens Try.prog 41 (fun n => [I n]) (fun _ => True) := (opens_int (by kernel_rfl)).map id (fun _ _ => rfl) (fun _ _ => trivial)
theorem opEnt : Opens Try.prog 54 enc (fun _ => True) := by
  have h := opens_struct Try.underlying54 (by kernel_rfl) (opensFs_cons rfl (by kernel_rfl) (by intros; rfl) opKind (opensFs_cons rfl (by kernel_rfl) (by intros; rfl) opS (opensFs_cons rfl (by kernel_rfl) (by intros; rfl) opI opensFs_nil)))
  exact h.map (fun x => ⟨x.1, x.2.1, x.2.2.1⟩) (fun _ _ => rfl) (fun _ _ => trivial)
theorem opEnts : Opens Try.prog 30 (fun l => [ents l]) (fun _ => True) := (opens_slice (by kernel_rfl) (by kernel_rfl) (by decide) opEnt ent (fun _ => rfl)).map id (fun _ _ => rfl) (fun _ _ => trivial)
end Go.Proofs.Ytabjpmleboeimaa
