/- The laws of chapter 10, as contracts: Apart. No condition. -/
import Derived.Test.YtlhaopapeggefaaS10
namespace Go.Proofs.Ytlhaopapeggefaa
open Go Go.Abs
set_option linter.unusedSimpArgs false
theorem prec_ext : ∀ {a b : List EntD}, a.Pairwise (fun x y => prec x y = true) → b.Pairwise (fun x y => prec x y = true) → (∀ x, x ∈ a ↔ x ∈ b) → a = b
  | [], [], _, _, _ => rfl
  | [], y :: b, _, _, h => by have := (h y).2 (by simp); simp at this
  | x :: a, [], _, _, h => by have := (h x).1 (by simp); simp at this
  | x :: a, y :: b, ha, hb, h => by
    rw [List.pairwise_cons] at ha hb
    have irr : ∀ z : EntD, prec z z = true → False := fun z hz => by rw [prec_irrefl] at hz; cases hz
    have e : x = y := by
      rcases List.mem_cons.1 ((h x).1 (by simp)) with h1 | h1
      · exact h1
      · rcases List.mem_cons.1 ((h y).2 (by simp)) with h2 | h2
        · exact h2.symm
        · exact (irr _ (prec_trans _ _ _ (hb.1 x h1) (ha.1 y h2))).elim
    subst e
    rw [prec_ext ha.2 hb.2 fun z => ?_]
    constructor
    · intro hz
      rcases List.mem_cons.1 ((h z).1 (by simp [hz])) with rfl | h1
      · exact (irr _ (ha.1 _ hz)).elim
      · exact h1
    · intro hz
      rcases List.mem_cons.1 ((h z).2 (by simp [hz])) with rfl | h1
      · exact (irr _ (hb.1 _ hz)).elim
      · exact h1
theorem allOf_rev (l : List (List EntD)) : allOf l.reverse = allOf l := by
  funext e; simp [allOf, List.all_reverse]
theorem common_mem {l : List (List EntD)} (h : ∀ s ∈ l, adj s = true) {s : List EntD} (hs : s ∈ l) (e : EntD) : e ∈ s.filter (allOf l) ↔ allOf l e = true := by
  rw [List.mem_filter]
  refine ⟨fun h => h.2, fun ha => ⟨?_, ha⟩⟩
  have h1 := ha
  unfold allOf at h1
  rw [List.all_eq_true] at h1
  have := get_mem (h s hs) (by simpa using h1 s hs : getOf s e.kind e.key = some e.id)
  exact this
theorem common_adj {l : List (List EntD)} (h : ∀ s ∈ l, adj s = true) {s : List EntD} (hs : s ∈ l) : adj (s.filter (allOf l)) = true := adj_pairwise.2 ((adj_pairwise.1 (h s hs)).filter _)
theorem sameO_pos {a : EntD → Bool} {l : List (List EntD)} {k : Nat} (hk : 0 < k) (hn : 0 < l.length) : sameO a l k = (l[0]).filter a := by
  unfold sameO
  rw [if_neg (by omega)]
  simp [List.getD, List.getElem?_eq_getElem hn]
theorem sameO_full {a : EntD → Bool} {l : List (List EntD)} (hn : 0 < l.length) : sameO a l l.length = (l[0]).filter a := sameO_pos hn hn
theorem same_rev {l : List (List EntD)} (h : ∀ s ∈ l, adj s = true) : sameO (allOf l) l.reverse l.length = sameO (allOf l) l l.length := by
  by_cases hn : 0 < l.length
  · have h1 : sameO (allOf l) l.reverse l.length = (l.reverse[0]'(by simpa using hn)).filter (allOf l) := sameO_pos hn (by simpa using hn)
    rw [h1, sameO_full hn]
    have m0 : l[0] ∈ l := List.getElem_mem _
    have m1 : l.reverse[0]'(by simpa using hn) ∈ l := List.mem_reverse.1 (List.getElem_mem _)
    exact prec_ext (adj_pairwise.1 (common_adj h m1)) (adj_pairwise.1 (common_adj h m0)) fun e => by rw [common_mem h m1, common_mem h m0]
  · have : l.length = 0 := by omega
    rw [this]; rfl
theorem idsO_full (a : EntD → Bool) (l : List (List EntD)) : idsO a l l.length = l.flatMap (idsS a) := by unfold idsO; rw [List.take_length]
theorem ids_rev (a : EntD → Bool) (l : List (List EntD)) : sortedL (idsO a l.reverse l.length) = sortedL (idsO a l l.length) := by
  have : idsO a l.reverse l.length = l.reverse.flatMap (idsS a) := by rw [← idsO_full, List.length_reverse]
  rw [this, idsO_full]
  exact strict_ext (sortedL_sorted _).1 (sortedL_sorted _).1 fun x => by rw [(sortedL_sorted _).2, (sortedL_sorted _).2]; simp [List.mem_flatMap]
/-- The law's split of the turned list is that of the list. -/
theorem split_rev {l : List (List EntD)} (h : ∀ s ∈ l, adj s = true) : splitAV (allOf l.reverse) l.reverse = splitAV (allOf l) l := by
  unfold splitAV
  rw [allOf_rev, List.length_reverse, same_rev h, ids_rev]
theorem common_diff {l : List (List EntD)} (h : ∀ s ∈ l, adj s = true) {s : List EntD} (hs : s ∈ l) : diffOf s (sameO (allOf l) l l.length) = [] := by
  have hn : 0 < l.length := List.length_pos_of_mem hs
  rw [sameO_full hn, diff_nil]
  intro e he
  have ha := (List.mem_filter.1 he).2
  unfold allOf at ha
  rw [List.all_eq_true] at ha
  simpa using ha s hs
theorem common_or {l : List (List EntD)} (h : ∀ s ∈ l, adj s = true) {s : List EntD} (hs : s ∈ l) {e : EntD} (he : e ∈ s) : getOf (sameO (allOf l) l l.length) e.kind e.key = some e.id ∨ e.id ∈ sortedL (idsO (allOf l) l l.length) := by
  have hn : 0 < l.length := List.length_pos_of_mem hs
  cases ha : allOf l e with
  | true =>
    refine .inl ?_
    rw [sameO_full hn]
    exact get_self (common_adj h (List.getElem_mem _)) ((common_mem h (List.getElem_mem _) e).2 ha)
  | false =>
    refine .inr ((sortedL_sorted _).2 _ |>.2 ?_)
    rw [idsO_full, List.mem_flatMap]
    refine ⟨s, hs, ?_⟩
    unfold idsS
    rw [List.mem_map]
    exact ⟨e, List.mem_filter.2 ⟨he, by simp [ha]⟩, rfl⟩
theorem split_rev_eq {l : List (List EntD)} (h : ∀ s ∈ l, adj s = true) (h1 : l.length ≤ 8) (h2 : ∀ s ∈ l, s.length ≤ 1000) : AC Try.prog 22 [.lst 1 (l.map ents).reverse] (splitAV (allOf l) l) := by
  rw [← split_rev h, ← List.map_reverse]
  exact split_ac l.reverse (by simp; omega) fun s hs => h2 s (List.mem_reverse.1 hs)
set_option maxRecDepth 8000 in
set_option maxHeartbeats 4000000 in
theorem apart_law (l : List (List EntD)) : AC Try.prog 7 [states l] (B true) := by
  refine AC.of_body Try.func7 rfl rfl Try.ntmps7 (congrArg Array.toList Try.results7) (by simp) (pures1 (pure_states _)) (pure_B _) fun w S' => AWp.of_vc [22] ?_
  simp [go_sem]
  refine CallSem.pure (allShort_ac l) (by simp [go_sem]) ?_
  cases hs : allShortOf l with
  | false =>
    simp [go_sem]
    refine CallSem.pure lives_ac (by simp [go_sem]) ?_
    simp [go_sem]
    refine PostR.ret ?_
    simp [go_sem]
  | true =>
    obtain ⟨h1, h2⟩ := allShort_spec hs
    have hadj : ∀ s ∈ l, adj s = true := fun s hs => (h2 s hs).2
    have hm : l.length ≤ maxLen := by unfold maxLen; omega
    simp [go_sem]
    refine CallSem.pure (split_ac l (by omega) (fun s hs => by have := (h2 s hs).1; omega)) (by simp [go_sem]) ?_
    simp [go_sem, splitAV]
    refine AWp.loop_vc [22] (fun m s => ∃ r v : Nat, r ≤ l.length ∧ m = r ∧ s.σ 0 = states l ∧ s.σ 3 = ents (sameO (allOf l) l l.length) ∧ s.σ 4 = ints (sortedL (idsO (allOf l) l l.length)) ∧ s.σ 6 = I ((r : Int) - 1) ∧ s.σ 5 = .ref 22 v ∧ s.ver 22 = v ∧ s.h 22 = .arr 23 1 (((l.drop r).reverse).map ents)) l.length ⟨l.length, 1, by simp [go_sem, wrap_pred hm]⟩ ?_
    rintro m s ⟨r, v, hr, rfl, g0, g3, g4, g6, g5, gv, gh⟩
    cases m with
    | succ q =>
      have hq : q < l.length := by omega
      have e6 : ((q + 1 : Nat) : Int) - 1 = (q : Int) := by omega
      rw [e6] at g6
      have hd : (l.drop q).reverse = (l.drop (q + 1)).reverse ++ [l[q]] := by rw [List.drop_eq_getElem_cons hq, List.reverse_cons]
      simp [go_sem, g0, g3, g4, g5, g6, gv, gh, hq, wrap_pred (show q ≤ maxLen by omega)]
      refine ⟨⟨by omega, by omega⟩, q, by omega, q, by omega, rfl, rfl, ?_⟩
      rw [List.drop_eq_getElem_cons (show q < (List.map ents l).length by simpa using hq), List.reverse_cons]
      simp [go_sem]
    | zero =>
      simp [go_sem, g0, g3, g4, g5, g6, gv, gh]
      refine CallSem.freeze 22 ?_
      simp [go_sem, gv, gh]
      refine CallSem.pure (split_rev_eq hadj h1 (fun s hs => by have := (h2 s hs).1; omega)) (by simp [go_sem]) ?_
      simp [go_sem, splitAV, g0, g3, g4]
      refine CallSem.pure (rsame_ac (sameO (allOf l) l l.length) (sameO (allOf l) l l.length)) (by simp [go_sem]) ?_
      simp [go_sem, g0, g3, g4]
      refine CallSem.pure (same_ac (sortedL (idsO (allOf l) l l.length)) (sortedL (idsO (allOf l) l l.length))) (by simp [go_sem]) ?_
      simp [go_sem, g0, g3, g4]
      refine AWp.loop_vc [22] (fun m s => ∃ i : Nat, i ≤ l.length ∧ m = l.length - i ∧ s.σ 0 = states l ∧ s.σ 3 = ents (sameO (allOf l) l l.length) ∧ s.σ 4 = ints (sortedL (idsO (allOf l) l l.length)) ∧ s.σ 9 = I i) l.length ⟨0, by simp [go_sem, g0, g3, g4]⟩ ?_
      rintro m s ⟨i, hi, rfl, k0, k3, k4, k9⟩
      by_cases hil : i < l.length
      · have hmem : l[i] ∈ l := List.getElem_mem hil
        have hli := (h2 _ hmem).1
        have hsl : (sameO (allOf l) l l.length).length ≤ 100000 := by
          rw [sameO_full (by omega)]
          have := List.length_filter_le (allOf l) l[0]
          have := (h2 _ (List.getElem_mem (show 0 < l.length by omega))).1
          omega
        simp [go_sem, k0, k3, k4, k9, hil]
        refine CallSem.pure (diff_ac l[i] (sameO (allOf l) l l.length) hsl) (by simp [go_sem]) ?_
        rw [common_diff hadj hmem]
        simp [go_sem, k0, k3, k4, k9, hil]
        refine AWp.loop_vc [22] (fun m s => ∃ q : Nat, q ≤ l[i].length ∧ m = l[i].length - q ∧ s.σ 0 = states l ∧ s.σ 3 = ents (sameO (allOf l) l l.length) ∧ s.σ 4 = ints (sortedL (idsO (allOf l) l l.length)) ∧ s.σ 9 = I i ∧ s.σ 10 = I q) l[i].length ⟨0, by simp [go_sem, k0, k3, k4, k9]⟩ ?_
        rintro m s ⟨q, hq, rfl, r0, r3, r4, r9, r10⟩
        by_cases hql : q < l[i].length
        · have hor := common_or hadj hmem (List.getElem_mem hql)
          have hw := wrap_succ hql (show l[i].length ≤ maxLen by unfold maxLen; omega)
          simp [go_sem, r0, r3, r4, r9, r10, hil, hql]
          refine AWp.drawAll rfl (by kernel_rfl) ?_
          simp [go_sem, r0, r3, r4, r9, r10, hil, hql]
          refine CalmThen.pure (get_ac (sameO (allOf l) l l.length) l[i][q].kind l[i][q].key) rfl ?_
          cases hg : getOf (sameO (allOf l) l l.length) l[i][q].kind l[i][q].key with
          | none =>
            rw [hg] at hor
            have hin : l[i][q].id ∈ sortedL (idsO (allOf l) l l.length) := hor.resolve_left (by simp)
            simp [go_sem, r0, r3, r4, r9, r10, hil, hql]
            refine CallSem.pure (has_ac (sortedL (idsO (allOf l) l l.length)) l[i][q].id) (by simp [go_sem]) ?_
            rw [show (sortedL (idsO (allOf l) l l.length)).contains l[i][q].id = true by simpa using hin]
            simp [go_sem, r0, r3, r4, r9, r10, hil, hql, hin, hw]
            exact ⟨l[i].length - (q + 1), by omega, q + 1, by omega, rfl, rfl⟩
          | some id =>
            by_cases hid : id = l[i][q].id
            · simp [go_sem, r0, r3, r4, r9, r10, hil, hql, hid, hw]
              exact ⟨l[i].length - (q + 1), by omega, q + 1, by omega, rfl, rfl⟩
            · rw [hg] at hor
              have hin : l[i][q].id ∈ sortedL (idsO (allOf l) l l.length) := hor.resolve_left (by simpa using hid)
              simp [go_sem, r0, r3, r4, r9, r10, hil, hql, hid]
              refine CallSem.pure (has_ac (sortedL (idsO (allOf l) l l.length)) l[i][q].id) (by simp [go_sem]) ?_
              rw [show (sortedL (idsO (allOf l) l l.length)).contains l[i][q].id = true by simpa using hin]
              simp [go_sem, r0, r3, r4, r9, r10, hil, hql, hid, hin, hw]
              exact ⟨l[i].length - (q + 1), by omega, q + 1, by omega, rfl, rfl⟩
        · simp [go_sem, r0, r3, r4, r9, r10, hil, hql, wrap_succ hil hm]
          exact ⟨l.length - (i + 1), by omega, i + 1, by omega, rfl, rfl⟩
      · by_cases hn : l.length = 0
        · have hl0 : l = [] := List.eq_nil_of_length_eq_zero hn
          subst hl0
          simp [go_sem, k0, k3, k4, k9, hil, sameO, idsO, sortedL]
          refine CallSem.pure lives_ac (by simp [go_sem]) ?_
          simp [go_sem]
          refine PostR.ret ?_
          simp [go_sem]
        · have hn' : 0 < l.length := by omega
          simp [go_sem, k0, k3, k4, k9, hil, hn']
          refine CallSem.pure lives_ac (by simp [go_sem]) ?_
          simp [go_sem]
          refine PostR.ret ?_
          simp [go_sem]

end Go.Proofs.Ytlhaopapeggefaa
