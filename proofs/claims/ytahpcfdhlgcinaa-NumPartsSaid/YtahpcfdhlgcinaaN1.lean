/- Contracts of chapter 01: Clip, Add, Max, BinarySearch, Union, Minus. No condition. -/
import Derived.Test.YtahpcfdhlgcinaaP1
namespace Go.Proofs.Ytahpcfdhlgcinaa
open Go Go.Abs
set_option linter.unusedSimpArgs false
theorem wrapOf {n : Int} (h1 : -9223372036854775808 ≤ n) (h2 : n ≤ 9223372036854775807) : IntKind.i64.wrap n = n := wrap_i64 h1 h2
theorem wrap_natN {k : Nat} (hm : k ≤ maxLen) : IntKind.i64.wrap (k : Int) = (k : Int) := wrap_i64 (by omega) (by unfold maxLen at hm; omega)
def clipOf (n lo hi : Int) : Int := if hi < lo then lo else if n < lo then lo else if hi < n then hi else n
set_option maxRecDepth 8000 in
set_option maxHeartbeats 4000000 in
theorem clip_ac (n lo hi : Int) : AC Try.prog 11 [I n, I lo, I hi] (I (clipOf n lo hi)) := by
  refine AC.of_body Try.func11 rfl rfl Try.ntmps11 (congrArg Array.toList Try.results11) (by simp) (pures3 (pure_I _) (pure_I _) (pure_I _)) (pure_I _) fun w S' => AWp.of_vc [] ?_
  unfold clipOf
  by_cases h1 : hi < lo
  · by_cases h2 : hi < n
    · by_cases h3 : hi < lo
      · simp [go_sem, h1, h2, h3]
        refine PostR.ret ?_
        simp [go_sem]
      · omega
    · by_cases h3 : n < lo
      · simp [go_sem, h1, h2, h3]
        refine PostR.ret ?_
        simp [go_sem]
      · simp [go_sem, h1, h2, h3]
        refine PostR.ret ?_
        simp [go_sem]
  · by_cases h2 : hi < n
    · have h3 : ¬ hi < lo := by omega
      have h4 : ¬ n < lo := by omega
      simp [go_sem, h1, h2, h3, h4]
      refine PostR.ret ?_
      simp [go_sem]
    · by_cases h3 : n < lo
      · simp [go_sem, h1, h2, h3]
        refine PostR.ret ?_
        simp [go_sem]
      · simp [go_sem, h1, h2, h3]
        refine PostR.ret ?_
        simp [go_sem]

set_option maxRecDepth 8000 in
set_option maxHeartbeats 4000000 in
theorem rclip_ac (n lo hi : Int) : AC Try.prog 12 [I n, I lo, I hi] (I (clipOf n lo hi)) := by
  refine AC.of_body Try.func12 rfl rfl Try.ntmps12 (congrArg Array.toList Try.results12) (by simp) (pures3 (pure_I _) (pure_I _) (pure_I _)) (pure_I _) fun w S' => AWp.of_vc [] ?_
  unfold clipOf
  by_cases h1 : hi < lo
  · simp [go_sem, h1]
    refine PostR.ret ?_
    simp [go_sem]
  · by_cases h2 : n < lo
    · simp [go_sem, h1, h2]
      refine PostR.ret ?_
      simp [go_sem]
    · by_cases h3 : hi < n
      · simp [go_sem, h1, h2, h3]
        refine PostR.ret ?_
        simp [go_sem]
      · simp [go_sem, h1, h2, h3]
        refine PostR.ret ?_
        simp [go_sem]

def boundOf (n : Int) : Int := clipOf n (-1000000000000) 1000000000000
theorem bound_in (n : Int) : -1000000000000 ≤ boundOf n ∧ boundOf n ≤ 1000000000000 := by
  unfold boundOf clipOf
  split
  · omega
  · split
    · omega
    · split <;> omega
def addOf (a b : Int) : Int := boundOf (boundOf a + boundOf b)
theorem add_wrap (a b : Int) : IntKind.i64.wrap (boundOf a + boundOf b) = boundOf a + boundOf b := by
  have h1 := bound_in a
  have h2 := bound_in b
  exact wrapOf (by omega) (by omega)
set_option maxRecDepth 8000 in
set_option maxHeartbeats 4000000 in
theorem bound_ac (n : Int) : AC Try.prog 32 [I n] (I (boundOf n)) := by
  refine AC.of_body Try.func32 rfl rfl Try.ntmps32 (congrArg Array.toList Try.results32) (by simp) (pures1 (pure_I _)) (pure_I _) fun w S' => AWp.of_vc [] ?_
  simp [go_sem]
  refine CallSem.pure (clip_ac n (-1000000000000) 1000000000000) (by simp [go_sem]) ?_
  simp [go_sem]
  refine PostR.ret ?_
  simp [go_sem, boundOf]

set_option maxRecDepth 8000 in
set_option maxHeartbeats 4000000 in
theorem add_ac (a b : Int) : AC Try.prog 13 [I a, I b] (I (addOf a b)) := by
  refine AC.of_body Try.func13 rfl rfl Try.ntmps13 (congrArg Array.toList Try.results13) (by simp) (pures2 (pure_I _) (pure_I _)) (pure_I _) fun w S' => AWp.of_vc [] ?_
  simp [go_sem]
  refine CallSem.pure (bound_ac a) (by simp [go_sem]) ?_
  simp [go_sem]
  refine CallSem.pure (bound_ac b) (by simp [go_sem]) ?_
  simp [go_sem, add_wrap]
  refine CallSem.pure (bound_ac (boundOf a + boundOf b)) (by simp [go_sem]) ?_
  simp [go_sem]
  refine PostR.ret ?_
  simp [go_sem, addOf]

set_option maxRecDepth 8000 in
set_option maxHeartbeats 4000000 in
theorem radd_ac (a b : Int) : AC Try.prog 14 [I a, I b] (I (addOf a b)) := by
  refine AC.of_body Try.func14 rfl rfl Try.ntmps14 (congrArg Array.toList Try.results14) (by simp) (pures2 (pure_I _) (pure_I _)) (pure_I _) fun w S' => AWp.of_vc [] ?_
  simp [go_sem]
  refine CallSem.pure (r := I (boundOf a)) (rclip_ac a (-1000000000000) 1000000000000) (by simp [go_sem]) ?_
  simp [go_sem]
  refine CallSem.pure (r := I (boundOf b)) (rclip_ac b (-1000000000000) 1000000000000) (by simp [go_sem]) ?_
  simp [go_sem, add_wrap]
  refine CallSem.pure (r := I (boundOf (boundOf a + boundOf b))) (rclip_ac (boundOf a + boundOf b) (-1000000000000) 1000000000000) (by simp [go_sem]) ?_
  simp [go_sem]
  refine PostR.ret ?_
  simp [go_sem, addOf]

theorem add_comm' (a b : Int) : addOf a b = addOf b a := by unfold addOf; rw [Int.add_comm]
/-- The greatest of a number and a list. -/
def maxF (m : Int) (l : List Int) : Int := l.foldl (fun a b => if a < b then b else a) m
def maxOf : List Int → Option Int
  | [] => none
  | x :: l => some (maxF x l)
theorem maxF_snoc (m : Int) (l : List Int) (x : Int) : maxF m (l ++ [x]) = if maxF m l < x then x else maxF m l := by
  unfold maxF
  rw [List.foldl_append]; rfl
theorem maxF_mem : ∀ (l : List Int) (m : Int), (maxF m l = m ∨ maxF m l ∈ l) ∧ m ≤ maxF m l ∧ ∀ x ∈ l, x ≤ maxF m l
  | [], m => ⟨.inl rfl, Int.le_refl _, fun x hx => by cases hx⟩
  | y :: l, m => by
    obtain ⟨h1, h2, h3⟩ := maxF_mem l (if m < y then y else m)
    have hE : maxF m (y :: l) = maxF (if m < y then y else m) l := rfl
    rw [hE]
    refine ⟨?_, ?_, fun x hx => ?_⟩
    · rcases h1 with h1 | h1
      · rw [h1]
        split
        · exact .inr (List.mem_cons_self ..)
        · exact .inl rfl
      · exact .inr (List.mem_cons_of_mem _ h1)
    · refine Int.le_trans ?_ h2
      split <;> omega
    · rcases List.mem_cons.1 hx with rfl | hx
      · refine Int.le_trans ?_ h2
        split <;> omega
      · exact h3 x hx
def optN (o : Option Int) : AV := .tup [I (o.getD 0), B o.isSome]
theorem pureR_optN (o : Option Int) : PureR (optN o) := by
  intro r hr
  simp only [List.mem_cons, List.not_mem_nil, or_false] at hr
  rcases hr with rfl | rfl
  · exact pure_I _
  · exact pure_B _
attribute [go_sem] optN
set_option maxRecDepth 8000 in
set_option maxHeartbeats 4000000 in
theorem smax_ac (x : Int) (l : List Int) : AC Try.prog 34 [ints (x :: l)] (I (maxF x l)) := by
  refine AC.of_body Try.func34 rfl rfl Try.ntmps34 (congrArg Array.toList Try.results34) (by simp) (pures1 (pure_ints _)) (pure_I _) fun w S' => AWp.bound 0 rfl fun hlen => AWp.of_vc [] ?_
  rw [ints_len] at hlen
  have h1 : ¬ ((l.length : Int) + 1 < 1) := by omega
  simp [go_sem, h1]
  refine AWp.loop_vc [] (fun m s => ∃ q : Nat, q ≤ l.length ∧ m = l.length - q ∧ s.σ 0 = ints (x :: l) ∧ s.σ 3 = I (maxF x (l.take q)) ∧ s.σ 4 = I ((q : Int) + 1)) l.length ⟨0, by simp [go_sem, maxF]⟩ ?_
  rintro m s ⟨q, hq, rfl, h0, h3, h4⟩
  have hl1 : (x :: l).length = l.length + 1 := rfl
  by_cases hlt : q < l.length
  · have t1 : (q : Int) + 1 < (l.length : Int) + 1 := by omega
    have t2 : (0 : Int) ≤ (q : Int) + 1 := by omega
    have t3 : ((q : Int) + 1).toNat = q + 1 := by omega
    have hs := maxF_snoc x (l.take q) l[q]
    rw [← List.take_succ_eq_append_getElem hlt] at hs
    have hw : IntKind.i64.wrap ((q : Int) + 1 + 1) = (q : Int) + 1 + 1 := wrapOf (by omega) (by rw [hl1] at hlen; unfold maxLen at hlen; omega)
    simp [go_sem, h0, h3, h4, t1, t2, t3, hlt, hw]
    exact ⟨l.length - (q + 1), by omega, q + 1, by omega, rfl, by rw [hs], by omega⟩
  · have t1 : ¬ (q : Int) + 1 < (l.length : Int) + 1 := by omega
    rw [List.take_of_length_le (by omega)] at h3
    simp [go_sem, h0, h3, h4, t1]
    refine PostR.ret ?_
    simp [go_sem]
set_option maxRecDepth 8000 in
set_option maxHeartbeats 4000000 in
theorem max_ac (l : List Int) : AC Try.prog 21 [ints l] (optN (maxOf l)) := by
  refine AC.of_body Try.func21 rfl rfl Try.ntmps21 (congrArg Array.toList Try.results21) (by simp) (pures1 (pure_ints _)) (pureR_optN _) fun w S' => AWp.of_vc [] ?_
  cases l with
  | nil =>
    simp [go_sem]
    refine PostR.ret ?_
    simp [go_sem, maxOf]
  | cons x l =>
    have t1 : ¬ (l.length : Int) + 1 = 0 := by omega
    simp [go_sem, t1]
    refine CallSem.pure (smax_ac x l) (by simp [go_sem]) ?_
    simp [go_sem]
    refine PostR.ret ?_
    simp [go_sem, maxOf]

set_option maxRecDepth 8000 in
set_option maxHeartbeats 4000000 in
theorem rmax_ac (l : List Int) : AC Try.prog 22 [ints l] (optN (maxOf l)) := by
  refine AC.of_body Try.func22 rfl rfl Try.ntmps22 (congrArg Array.toList Try.results22) (by simp) (pures1 (pure_ints _)) (pureR_optN _) fun w S' => AWp.bound 0 rfl fun hlen => AWp.of_vc [] ?_
  rw [ints_len] at hlen
  cases l with
  | nil =>
    simp [go_sem]
    refine PostR.ret ?_
    simp [go_sem, maxOf]
  | cons x l =>
    have t0 : ¬ (l.length : Int) + 1 = 0 := by omega
    have hl1 : (x :: l).length = l.length + 1 := rfl
    simp [go_sem, t0]
    refine AWp.loop_vc [] (fun m s => ∃ q : Nat, q ≤ l.length ∧ m = l.length - q ∧ s.σ 0 = ints (x :: l) ∧ s.σ 4 = I (maxF x (l.take q)) ∧ s.σ 5 = I ((q : Int) + 1)) l.length ⟨0, by simp [go_sem, maxF]⟩ ?_
    rintro m s ⟨q, hq, rfl, h0, h3, h4⟩
    by_cases hlt : q < l.length
    · have t1 : (q : Int) + 1 < (l.length : Int) + 1 := by omega
      have t2 : (0 : Int) ≤ (q : Int) + 1 := by omega
      have t3 : ((q : Int) + 1).toNat = q + 1 := by omega
      have hs := maxF_snoc x (l.take q) l[q]
      rw [← List.take_succ_eq_append_getElem hlt] at hs
      have hw : IntKind.i64.wrap ((q : Int) + 1 + 1) = (q : Int) + 1 + 1 := wrapOf (by omega) (by rw [hl1] at hlen; unfold maxLen at hlen; omega)
      by_cases hg : maxF x (l.take q) < l[q]
      · rw [if_pos hg] at hs
        simp [go_sem, h0, h3, h4, t1, t2, t3, hlt, hw, hg]
        exact ⟨l.length - (q + 1), by omega, q + 1, by omega, rfl, by rw [hs], by omega⟩
      · rw [if_neg hg] at hs
        simp [go_sem, h0, h3, h4, t1, t2, t3, hlt, hw, hg]
        exact ⟨l.length - (q + 1), by omega, q + 1, by omega, rfl, by rw [hs], by omega⟩
    · have t1 : ¬ (q : Int) + 1 < (l.length : Int) + 1 := by omega
      rw [List.take_of_length_le (by omega)] at h3
      simp [go_sem, h0, h3, h4, t1]
      refine PostR.ret ?_
      simp [go_sem, maxOf]

end Go.Proofs.Ytahpcfdhlgcinaa
