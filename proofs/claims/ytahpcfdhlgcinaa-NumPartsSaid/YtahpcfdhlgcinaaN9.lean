/- The laws of chapter 01, as contracts. No condition. -/
import Derived.Test.YtahpcfdhlgcinaaN8
namespace Go.Proofs.Ytahpcfdhlgcinaa
open Go Go.Abs
set_option linter.unusedSimpArgs false
set_option maxRecDepth 8000 in
set_option maxHeartbeats 4000000 in
theorem copied_ac (l : List Int) (hn : l.length ≤ 100000) : AC Try.prog 20 [ints l] (ints l) := by
  refine AC.of_body Try.func20 rfl rfl Try.ntmps20 (congrArg Array.toList Try.results20) (by simp) (pures1 (pure_ints _)) (pureR_ints _) fun w S' => AWp.of_vc [6] ?_
  have hw : IntKind.i64.wrap ((l.length : Int) + 2) = (l.length : Int) + 2 := wrap_i64 (by omega) (by omega)
  have t1 : (0 : Int) ≤ (l.length : Int) + 2 := by omega
  have t2 : ((l.length : Int) + 2).toNat = l.length + 2 := by omega
  simp [go_sem, hw, t1, t2]
  refine ⟨⟨by omega, by omega⟩, ⟨by omega, by omega⟩, ?_⟩
  refine PostR.retW [6] ?_ (.refl _)
  simp [go_sem]

def ex120 : Bytes := [45, 49, 50, 48]
theorem ex1_text : textOf (-120) = ex120 := by decide
theorem ex1_parse : parseOf ex120 = some (-120) := by decide
theorem ex1_misc : maxOf [-5, -9] = some (-5) ∧ clipOf 7 1 5 = 5 ∧ addOf 1000000000000 5 = 1000000000000 ∧ sortedL [3, -1, 3] = [-1, 3] ∧ sortedL ([2, 1] ++ [2, 7]) = [1, 2, 7] ∧ minusOf [4, 2, 2, 9] [9] = [2, 4] := by decide
set_option maxRecDepth 8000 in
set_option maxHeartbeats 4000000 in
theorem lives1_ac  : AC Try.prog 15 [] (B true) := by
  refine AC.of_body Try.func15 rfl rfl Try.ntmps15 (congrArg Array.toList Try.results15) (by simp) (pures0) (pure_B _) fun w S' => AWp.of_vc [] ?_
  simp [go_sem]
  refine CallSem.pure (parse_ac ex120) (by simp [go_sem]) ?_
  rw [ex1_parse]
  simp [go_sem]
  refine CallSem.pure (max_ac [-5, -9]) (by simp [go_sem]) ?_
  rw [ex1_misc.1]
  simp [go_sem]
  refine CallSem.pure (clip_ac 7 1 5) (by simp [go_sem]) ?_
  rw [ex1_misc.2.1]
  simp [go_sem]
  refine CallSem.pure (add_ac 1000000000000 5) (by simp [go_sem]) ?_
  rw [ex1_misc.2.2.1]
  simp [go_sem]
  refine CallSem.pure (text_ac (-120) (by omega) (by omega)) (by simp [go_sem]) ?_
  rw [ex1_text]
  simp [go_sem, ex120]
  refine CallSem.pure (numSorted_ac [3, -1, 3] (by decide)) (by simp [go_sem]) ?_
  rw [sortedSet_eq, ex1_misc.2.2.2.1]
  simp [go_sem]
  refine CallSem.pure (same_ac [-1, 3] [-1, 3]) (by simp [go_sem]) ?_
  simp [go_sem]
  refine CallSem.pure (numHas_ac [4] 4) (by simp [go_sem]) ?_
  simp [go_sem]
  refine CallSem.pure (numUnion_ac [2, 1] [2, 7] (by decide)) (by simp [go_sem]) ?_
  rw [sortedSet_eq, ex1_misc.2.2.2.2.1]
  simp [go_sem]
  refine CallSem.pure (same_ac [1, 2, 7] [1, 2, 7]) (by simp [go_sem]) ?_
  simp [go_sem]
  refine CallSem.pure (minus_ac [4, 2, 2, 9] [9] (by decide) (by decide)) (by simp [go_sem]) ?_
  rw [ex1_misc.2.2.2.2.2]
  simp [go_sem]
  refine CallSem.pure (same_ac [2, 4] [2, 4]) (by simp [go_sem]) ?_
  simp [go_sem]
  refine PostR.ret ?_
  simp [go_sem]

set_option maxRecDepth 8000 in
set_option maxHeartbeats 4000000 in
theorem clips1_law (n lo hi : Int) : AC Try.prog 3 [I n, I lo, I hi] (B true) := by
  refine AC.of_body Try.func3 rfl rfl Try.ntmps3 (congrArg Array.toList Try.results3) (by simp) (pures3 (pure_I _) (pure_I _) (pure_I _)) (pure_B _) fun w S' => AWp.of_vc [] ?_
  simp [go_sem]
  refine CallSem.pure (clip_ac n lo hi) (by simp [go_sem]) ?_
  simp [go_sem]
  refine CallSem.pure (rclip_ac n lo hi) (by simp [go_sem]) ?_
  simp [go_sem]
  refine CallSem.pure (add_ac n lo) (by simp [go_sem]) ?_
  simp [go_sem]
  refine CallSem.pure (radd_ac n lo) (by simp [go_sem]) ?_
  simp [go_sem]
  refine CallSem.pure (add_ac n lo) (by simp [go_sem]) ?_
  simp [go_sem]
  refine CallSem.pure (add_ac lo n) (by simp [go_sem]) ?_
  rw [add_comm' lo n]
  simp [go_sem]
  refine CallSem.pure lives1_ac (by simp [go_sem]) ?_
  simp [go_sem]
  refine PostR.ret ?_
  simp [go_sem]

set_option maxRecDepth 8000 in
set_option maxHeartbeats 4000000 in
theorem nearest1_law (n lo hi : Int) : AC Try.prog 4 [I n, I lo, I hi] (B true) := by
  refine AC.of_body Try.func4 rfl rfl Try.ntmps4 (congrArg Array.toList Try.results4) (by simp) (pures3 (pure_I _) (pure_I _) (pure_I _)) (pure_B _) fun w S' => AWp.of_vc [] ?_
  simp [go_sem]
  refine CallSem.pure (clip_ac n lo hi) (by simp [go_sem]) ?_
  obtain ⟨c, hc⟩ : ∃ c, c = clipOf n lo hi := ⟨_, rfl⟩
  rw [← hc]
  unfold clipOf at hc
  by_cases h1 : hi < lo
  · rw [if_pos h1] at hc
    simp [go_sem, h1, hc]
    refine CallSem.pure lives1_ac (by simp [go_sem]) ?_
    simp [go_sem]
    refine PostR.ret ?_
    simp [go_sem]
  rw [if_neg h1] at hc
  by_cases h2 : n < lo
  · rw [if_pos h2] at hc
    have h3 : ¬ c < lo := by omega
    have h4 : ¬ hi < c := by omega
    simp [go_sem, h1, h2, h3, h4, hc]
    refine CallSem.pure lives1_ac (by simp [go_sem]) ?_
    simp [go_sem]
    refine PostR.ret ?_
    simp [go_sem]
  rw [if_neg h2] at hc
  by_cases h5 : hi < n
  · rw [if_pos h5] at hc
    have h3 : ¬ c < lo := by omega
    have h4 : ¬ hi < c := by omega
    simp [go_sem, h1, h2, h3, h4, h5, hc]
    refine CallSem.pure lives1_ac (by simp [go_sem]) ?_
    simp [go_sem]
    refine PostR.ret ?_
    simp [go_sem]
  rw [if_neg h5] at hc
  simp [go_sem, h1, h2, h5, hc]
  refine CallSem.pure lives1_ac (by simp [go_sem]) ?_
  simp [go_sem]
  refine PostR.ret ?_
  simp [go_sem]

set_option maxRecDepth 8000 in
set_option maxHeartbeats 4000000 in
theorem texts1_law (n : Int) (h1 : -9223372036854775808 ≤ n) (h2 : n ≤ 9223372036854775807) : AC Try.prog 5 [I n] (B true) := by
  refine AC.of_body Try.func5 rfl rfl Try.ntmps5 (congrArg Array.toList Try.results5) (by simp) (pures1 (pure_I _)) (pure_B _) fun w S' => AWp.of_vc [] ?_
  have hp := parse_text (n := n) (by rw [pow20]; omega)
  simp [go_sem]
  refine CallSem.pure (text_ac n h1 h2) (by simp [go_sem]) ?_
  simp [go_sem]
  refine CallSem.pure (parse_ac (textOf n)) (by simp [go_sem]) ?_
  rw [hp]
  by_cases hlo : n < -1000000000000
  · rw [if_neg (by omega)]
    simp [go_sem, hlo]
    refine CallSem.pure (rtext_ac n h1 h2) (by simp [go_sem]) ?_
    simp [go_sem]
    refine CallSem.pure lives1_ac (by simp [go_sem]) ?_
    simp [go_sem]
    refine PostR.ret ?_
    simp [go_sem]
  by_cases hhi : 1000000000000 < n
  · rw [if_neg (by omega)]
    simp [go_sem, hlo, hhi]
    refine CallSem.pure (rtext_ac n h1 h2) (by simp [go_sem]) ?_
    simp [go_sem]
    refine CallSem.pure lives1_ac (by simp [go_sem]) ?_
    simp [go_sem]
    refine PostR.ret ?_
    simp [go_sem]
  rw [if_pos (by omega)]
  simp [go_sem, hlo, hhi]
  refine CallSem.pure (rtext_ac n h1 h2) (by simp [go_sem]) ?_
  simp [go_sem]
  refine CallSem.pure lives1_ac (by simp [go_sem]) ?_
  simp [go_sem]
  refine PostR.ret ?_
  simp [go_sem]

set_option maxRecDepth 8000 in
set_option maxHeartbeats 4000000 in
theorem parses1_law (s : Bytes) : AC Try.prog 6 [S s] (B true) := by
  refine AC.of_body Try.func6 rfl rfl Try.ntmps6 (congrArg Array.toList Try.results6) (by simp) (pures1 (pure_S _)) (pure_B _) fun w S' => AWp.of_vc [] ?_
  simp [go_sem]
  refine CallSem.pure (parse_ac s) (by simp [go_sem]) ?_
  simp [go_sem]
  refine CallSem.pure (rparse_ac s) (by simp [go_sem]) ?_
  cases hp : parseOf s with
  | none =>
    simp [go_sem]
    refine CallSem.pure lives1_ac (by simp [go_sem]) ?_
    simp [go_sem]
    refine PostR.ret ?_
    simp [go_sem]
  | some n =>
    obtain ⟨h1, h2, h3⟩ := parse_some hp
    simp [go_sem]
    refine CallSem.pure (text_ac n (by omega) (by omega)) (by simp [go_sem]) ?_
    rw [h3]
    simp [go_sem]
    refine CallSem.pure lives1_ac (by simp [go_sem]) ?_
    simp [go_sem]
    refine PostR.ret ?_
    simp [go_sem]

set_option maxRecDepth 8000 in
set_option maxHeartbeats 4000000 in
theorem lists1_law (l : List Int) (n : Int) : AC Try.prog 7 [ints l, I n] (B true) := by
  refine AC.of_body Try.func7 rfl rfl Try.ntmps7 (congrArg Array.toList Try.results7) (by simp) (pures2 (pure_ints _) (pure_I _)) (pure_B _) fun w S' => AWp.of_vc [] ?_
  by_cases g : (100 : Int) < l.length
  · simp [go_sem, g]
    refine CallSem.pure lives1_ac (by simp [go_sem]) ?_
    simp [go_sem]
    refine PostR.ret ?_
    simp [go_sem]
  simp [go_sem, g]
  refine CallSem.pure (copied_ac l (by omega)) (by simp [go_sem]) ?_
  simp [go_sem]
  refine CallSem.pure (max_ac l) (by simp [go_sem]) ?_
  simp [go_sem]
  refine CallSem.pure (rmax_ac l) (by simp [go_sem]) ?_
  simp [go_sem]
  refine CallSem.pure (numSorted_ac l (by omega)) (by simp [go_sem]) ?_
  rw [sortedSet_eq]
  simp [go_sem]
  refine CallSem.pure (sorted_ac l (by omega)) (by simp [go_sem]) ?_
  simp [go_sem]
  refine CallSem.pure (same_ac (sortedL l) (sortedL l)) (by simp [go_sem]) ?_
  simp [go_sem]
  refine CallSem.pure (r := B (hasI l n)) (numHas_ac l n) (by simp [go_sem]) ?_
  simp [go_sem]
  refine CallSem.pure (r := B (hasI l n)) (has_ac l n) (by simp [go_sem]) ?_
  simp [go_sem]
  refine CallSem.pure (same_ac l l) (by simp [go_sem]) ?_
  simp [go_sem]
  refine CallSem.pure lives1_ac (by simp [go_sem]) ?_
  simp [go_sem]
  refine PostR.ret ?_
  simp [go_sem]

set_option maxRecDepth 8000 in
set_option maxHeartbeats 4000000 in
theorem sets1_law (a b : List Int) : AC Try.prog 8 [ints a, ints b] (B true) := by
  refine AC.of_body Try.func8 rfl rfl Try.ntmps8 (congrArg Array.toList Try.results8) (by simp) (pures2 (pure_ints _) (pure_ints _)) (pure_B _) fun w S' => AWp.of_vc [] ?_
  by_cases ga : (100 : Int) < a.length
  · simp [go_sem, ga]
    refine CallSem.pure lives1_ac (by simp [go_sem]) ?_
    simp [go_sem]
    refine PostR.ret ?_
    simp [go_sem]
  by_cases gb : (100 : Int) < b.length
  · simp [go_sem, ga, gb]
    refine CallSem.pure lives1_ac (by simp [go_sem]) ?_
    simp [go_sem]
    refine PostR.ret ?_
    simp [go_sem]
  simp [go_sem, ga, gb]
  refine CallSem.pure (copied_ac a (by omega)) (by simp [go_sem]) ?_
  simp [go_sem]
  refine CallSem.pure (copied_ac b (by omega)) (by simp [go_sem]) ?_
  simp [go_sem]
  refine CallSem.pure (numUnion_ac a b (by omega)) (by simp [go_sem]) ?_
  rw [sortedSet_eq]
  simp [go_sem]
  refine CallSem.pure (runion_ac a b (by omega) (by omega)) (by simp [go_sem]) ?_
  simp [go_sem]
  refine CallSem.pure (same_ac (sortedL (a ++ b)) (sortedL (a ++ b))) (by simp [go_sem]) ?_
  simp [go_sem]
  refine CallSem.pure (minus_ac a b (by omega) (by omega)) (by simp [go_sem]) ?_
  simp [go_sem]
  refine CallSem.pure (rminus_ac a b (by omega)) (by simp [go_sem]) ?_
  simp [go_sem]
  refine CallSem.pure (same_ac (minusOf a b) (minusOf a b)) (by simp [go_sem]) ?_
  simp [go_sem]
  refine CallSem.pure (same_ac a a) (by simp [go_sem]) ?_
  simp [go_sem]
  refine CallSem.pure (same_ac b b) (by simp [go_sem]) ?_
  simp [go_sem]
  refine CallSem.pure lives1_ac (by simp [go_sem]) ?_
  simp [go_sem]
  refine PostR.ret ?_
  simp [go_sem]

end Go.Proofs.Ytahpcfdhlgcinaa
