/- The laws of chapter 09: Closes, Heads, Reaches, Depths, Follows, Unites. No condition. -/
import Derived.Test.YthlcncofhnkohaaG10
namespace Go.Proofs.Ythlcncofhnkohaa
open Go Go.Abs
set_option linter.unusedSimpArgs false
theorem great_fit {l : List Evt} (h : greatOf l 14 = false) : Fit l := by
  obtain ⟨h1, h2⟩ := greatOf_iff.1 h
  exact ⟨h1, fun e he => (h2 e he).a0, fun e he => (h2 e he).a1⟩
set_option maxRecDepth 8000 in
set_option maxHeartbeats 4000000 in
theorem closes9_law (l : List Evt) : AC Try.prog 3 [evs l] (B true) := by
  refine AC.of_body Try.func3 rfl rfl Try.ntmps3 (congrArg Array.toList Try.results3) (by simp) (pures1 (pure_evs _)) (pure_B _) fun w S' => AWp.of_vc [] ?_
  simp [go_sem]
  refine CallSem.pure (great_ac l) (by simp [go_sem]) ?_
  cases hG : greatOf l 14 with
  | true =>
    simp [go_sem]
    refine PostR.ret ?_
    simp [go_sem]
  | false =>
    have hl := great_fit hG
    have hll := hl.len
    simp [go_sem]
    refine CallSem.pure (closed_ac l) (by simp [go_sem]) ?_
    simp [go_sem]
    refine CallSem.pure (rclosed_ac l hl) (by simp [go_sem]) ?_
    simp [go_sem]
    refine CallSem.pure (roots_ac l (by omega)) (by simp [go_sem]) ?_
    rw [sortedSet_eq]
    simp [go_sem]
    refine CallSem.pure (rroots_ac l (by omega)) (by simp [go_sem]) ?_
    generalize sortedL (rootsOf l) = R
    simp [go_sem]
    refine CallSem.pure (same_ac R R) (by simp [go_sem]) ?_
    simp [go_sem]
    refine CallSem.pure (order_ac l (by omega)) (by simp [go_sem]) ?_
    simp [go_sem]
    refine CallSem.pure (rorder_ac l (by omega)) (by simp [go_sem]) ?_
    generalize orderOf l = O
    simp [go_sem]
    refine CallSem.pure (same_ac O O) (by simp [go_sem]) ?_
    simp [go_sem]
    refine CallSem.pure live9_ac (by simp [go_sem]) ?_
    simp [go_sem]
    refine PostR.ret ?_
    simp [go_sem]

set_option maxRecDepth 8000 in
set_option maxHeartbeats 4000000 in
theorem heads9_law (l : List Evt) (ids : List Int) : AC Try.prog 4 [evs l, ints ids] (B true) := by
  refine AC.of_body Try.func4 rfl rfl Try.ntmps4 (congrArg Array.toList Try.results4) (by simp) (pures2 (pure_evs _) (pure_ints _)) (pure_B _) fun w S' => AWp.of_vc [] ?_
  by_cases g : (40 : Int) < ids.length
  · simp [go_sem]
    refine CallSem.pure (great_ac l) (by simp [go_sem]) ?_
    cases hG : greatOf l 14 with
    | true =>
      simp [go_sem]
      refine PostR.ret ?_
      simp [go_sem]
    | false =>
      simp [go_sem, g]
      refine PostR.ret ?_
      simp [go_sem]
  · simp [go_sem]
    refine CallSem.pure (great_ac l) (by simp [go_sem]) ?_
    cases hG : greatOf l 14 with
    | true =>
      simp [go_sem]
      refine PostR.ret ?_
      simp [go_sem]
    | false =>
      have hl := great_fit hG
      simp [go_sem, g]
      refine CallSem.pure (heads_ac l ids hl (by omega)) (by simp [go_sem]) ?_
      simp [go_sem]
      refine CallSem.pure (rheads_ac l ids (by omega)) (by simp [go_sem]) ?_
      generalize headsOf l ids = H
      simp [go_sem]
      refine CallSem.pure (same_ac H H) (by simp [go_sem]) ?_
      simp [go_sem]
      refine CallSem.pure live9_ac (by simp [go_sem]) ?_
      simp [go_sem]
      refine PostR.ret ?_
      simp [go_sem]

set_option maxRecDepth 8000 in
set_option maxHeartbeats 4000000 in
theorem reaches9_law (l : List Evt) (ids : List Int) : AC Try.prog 5 [evs l, ints ids] (B true) := by
  refine AC.of_body Try.func5 rfl rfl Try.ntmps5 (congrArg Array.toList Try.results5) (by simp) (pures2 (pure_evs _) (pure_ints _)) (pure_B _) fun w S' => AWp.of_vc [] ?_
  by_cases g : (40 : Int) < ids.length
  · simp [go_sem]
    refine CallSem.pure (great_ac l) (by simp [go_sem]) ?_
    cases hG : greatOf l 14 with
    | true =>
      simp [go_sem]
      refine PostR.ret ?_
      simp [go_sem]
    | false =>
      simp [go_sem, g]
      refine PostR.ret ?_
      simp [go_sem]
  · simp [go_sem]
    refine CallSem.pure (great_ac l) (by simp [go_sem]) ?_
    cases hG : greatOf l 14 with
    | true =>
      simp [go_sem]
      refine PostR.ret ?_
      simp [go_sem]
    | false =>
      have hl := great_fit hG
      simp [go_sem, g]
      refine CallSem.pure (anc_ac l ids hl (by omega)) (by simp [go_sem]) ?_
      simp [go_sem]
      refine CallSem.pure (ranc_ac l ids hl (by omega)) (by simp [go_sem]) ?_
      generalize reachOf l false ids = H
      simp [go_sem]
      refine CallSem.pure (same_ac H H) (by simp [go_sem]) ?_
      simp [go_sem]
      refine CallSem.pure (chain_ac l ids hl (by omega)) (by simp [go_sem]) ?_
      simp [go_sem]
      refine CallSem.pure (rchain_ac l ids hl (by omega)) (by simp [go_sem]) ?_
      generalize chainOf l ids = C
      simp [go_sem]
      refine CallSem.pure (same_ac C C) (by simp [go_sem]) ?_
      simp [go_sem]
      refine CallSem.pure live9_ac (by simp [go_sem]) ?_
      simp [go_sem]
      refine PostR.ret ?_
      simp [go_sem]

theorem Reach.trans {l : List Evt} {b : Bool} {fr fr' : List Int} (h : ∀ n ∈ fr', knownB l n = true → Reach l b fr n) {n : Int} (hn : Reach l b fr' n) : Reach l b fr n := by
  induction hn with
  | start h1 h2 => exact h _ h1 h2
  | step _ h1 h2 h3 ih => exact .step ih h1 h2 h3
theorem before_trans {l : List Evt} {a b c : Int} (h1 : beforeOf l a b = true) (h2 : beforeOf l b c = true) (h3 : a ≠ c) : beforeOf l a c = true := by
  unfold beforeOf at *
  simp only [Bool.and_eq_true, List.contains_eq_mem, decide_eq_true_eq, mem_reachOf] at *
  refine ⟨by simpa using h3, Reach.trans (fun n hn hk => ?_) h1.2⟩
  simp only [List.mem_singleton] at hn
  subst hn; exact h2.2
theorem pure_trio (a b c : Int) : Pure (.agg [I a, I b, I c]) := pure_agg fun x h => by
  simp only [List.mem_cons, List.not_mem_nil, or_false] at h
  rcases h with rfl | rfl | rfl <;> exact pure_I _
set_option maxRecDepth 8000 in
set_option maxHeartbeats 4000000 in
theorem follows9_law (l : List Evt) (a b c : Int) : AC Try.prog 10 [evs l, .agg [I a, I b, I c]] (B true) := by
  refine AC.of_body Try.func10 rfl rfl Try.ntmps10 (congrArg Array.toList Try.results10) (by simp) (pures2 (pure_evs _) (pure_trio _ _ _)) (pure_B _) fun w S' => AWp.of_vc [] ?_
  simp [go_sem]
  refine CallSem.pure (great_ac l) (by simp [go_sem]) ?_
  cases hG : greatOf l 14 with
  | true =>
    simp [go_sem]
    refine PostR.ret ?_
    simp [go_sem]
  | false =>
    have hl := great_fit hG
    simp [go_sem]
    refine CallSem.pure (before_ac l a b hl) (by simp [go_sem]) ?_
    cases h1 : beforeOf l a b with
    | false =>
      simp [go_sem]
      refine CallSem.pure live9_ac (by simp [go_sem]) ?_
      simp [go_sem]
      refine PostR.ret ?_
      simp [go_sem]
    | true =>
      simp [go_sem]
      refine CallSem.pure (before_ac l b c hl) (by simp [go_sem]) ?_
      cases h2 : beforeOf l b c with
      | false =>
        simp [go_sem]
        refine CallSem.pure live9_ac (by simp [go_sem]) ?_
        simp [go_sem]
        refine PostR.ret ?_
        simp [go_sem]
      | true =>
        by_cases g : a = c
        · simp [go_sem, g]
          refine CallSem.pure live9_ac (by simp [go_sem]) ?_
          simp [go_sem]
          refine PostR.ret ?_
          simp [go_sem]
        · simp [go_sem, g]
          refine CallSem.pure (before_ac l a c hl) (by simp [go_sem]) ?_
          rw [before_trans h1 h2 g]
          simp [go_sem, g]
          refine CallSem.pure live9_ac (by simp [go_sem]) ?_
          simp [go_sem]
          refine PostR.ret ?_
          simp [go_sem]

theorem reach_app {l : List Evt} {b : Bool} {x y : List Int} : reachOf l b (x ++ y) = sortedL (reachOf l b x ++ reachOf l b y) := by
  refine strict_ext (reachOf_sorted _ _ _) (sortedL_sorted _).1 fun n => ?_
  rw [(sortedL_sorted _).2, List.mem_append, mem_reachOf, mem_reachOf, mem_reachOf]
  constructor
  · intro h
    induction h with
    | start h1 h2 => exact (List.mem_append.1 h1).imp (fun h => .start h h2) (fun h => .start h h2)
    | step _ h1 h2 h3 ih => exact ih.imp (fun h => .step h h1 h2 h3) (fun h => .step h h1 h2 h3)
  · rintro (h | h)
    · exact Reach.trans (fun n hn hk => .start (List.mem_append_left _ hn) hk) h
    · exact Reach.trans (fun n hn hk => .start (List.mem_append_right _ hn) hk) h
theorem chain_app {l : List Evt} {x y : List Int} : chainOf l (x ++ y) = sortedL (chainOf l x ++ chainOf l y) := by
  unfold chainOf
  rw [← reach_app]
  unfold firstOf
  rw [List.flatMap_append]
set_option maxRecDepth 8000 in
set_option maxHeartbeats 4000000 in
theorem unites9_law (l : List Evt) (a b : List Int) : AC Try.prog 9 [evs l, ints a, ints b] (B true) := by
  refine AC.of_body Try.func9 rfl rfl Try.ntmps9 (congrArg Array.toList Try.results9) (by simp) (pures3 (pure_evs _) (pure_ints _) (pure_ints _)) (pure_B _) fun w S' => AWp.of_vc [20] ?_
  by_cases g : (40 : Int) < a.length
  · simp [go_sem]
    refine CallSem.pure (great_ac l) (by simp [go_sem]) ?_
    cases hG : greatOf l 14 with
    | true =>
      simp [go_sem]
      refine PostR.ret ?_
      simp [go_sem]
    | false =>
      simp [go_sem, g]
      refine PostR.ret ?_
      simp [go_sem]
  · by_cases g2 : (40 : Int) < b.length
    · simp [go_sem]
      refine CallSem.pure (great_ac l) (by simp [go_sem]) ?_
      cases hG : greatOf l 14 with
      | true =>
        simp [go_sem]
        refine PostR.ret ?_
        simp [go_sem]
      | false =>
        simp [go_sem, g, g2]
        refine PostR.ret ?_
        simp [go_sem]
    · simp [go_sem]
      refine CallSem.pure (great_ac l) (by simp [go_sem]) ?_
      cases hG : greatOf l 14 with
      | true =>
        simp [go_sem]
        refine PostR.ret ?_
        simp [go_sem]
      | false =>
        have hl := great_fit hG
        simp [go_sem, g, g2]
        refine ⟨⟨by omega, by omega⟩, ⟨by omega, by omega⟩, ?_⟩
        refine CallSem.freeze 20 ?_
        simp [go_sem, g, g2]
        refine CallSem.by (anc_ac l (a ++ b) hl (by simp; omega)) ⟨.refl _, by simp only [ints, List.map_append]; exact .refl _, trivial⟩ (by simp [go_sem]) ?_
        rw [reach_app]
        simp [go_sem, g, g2]
        refine CallSem.pure (anc_ac l a hl (by omega)) (by simp [go_sem]) ?_
        have hla := reachOf_len l false a
        have hlb := reachOf_len l false b
        have hll := hl.len
        generalize reachOf l false a = A at hla ⊢
        simp [go_sem, g, g2]
        refine CallSem.pure (anc_ac l b hl (by omega)) (by simp [go_sem]) ?_
        generalize reachOf l false b = B' at hlb ⊢
        simp [go_sem, g, g2]
        refine CallSem.pure (runion_ac A B' (by omega) (by omega)) (by simp [go_sem]) ?_
        generalize sortedL (A ++ B') = U
        simp [go_sem, g, g2]
        refine CallSem.pure (same_ac U U) (by simp [go_sem]) ?_
        simp [go_sem, g, g2]
        refine CallSem.by (chain_ac l (a ++ b) hl (by simp; omega)) ⟨.refl _, by simp only [ints, List.map_append]; exact .refl _, trivial⟩ (by simp [go_sem]) ?_
        rw [chain_app]
        simp [go_sem, g, g2]
        refine CallSem.pure (chain_ac l a hl (by omega)) (by simp [go_sem]) ?_
        have hca : (chainOf l a).length ≤ l.length := reachOf_len _ _ _
        have hcb : (chainOf l b).length ≤ l.length := reachOf_len _ _ _
        generalize chainOf l a = C at hca ⊢
        simp [go_sem, g, g2]
        refine CallSem.pure (chain_ac l b hl (by omega)) (by simp [go_sem]) ?_
        generalize chainOf l b = D at hcb ⊢
        simp [go_sem, g, g2]
        refine CallSem.pure (runion_ac C D (by omega) (by omega)) (by simp [go_sem]) ?_
        generalize sortedL (C ++ D) = V
        simp [go_sem, g, g2]
        refine CallSem.pure (same_ac V V) (by simp [go_sem]) ?_
        simp [go_sem, g, g2]
        refine CallSem.pure live9_ac (by simp [go_sem]) ?_
        simp [go_sem]
        refine PostR.ret ?_
        simp [go_sem]

end Go.Proofs.Ythlcncofhnkohaa
