/- Contracts of chapter 36: Threads, Show. No condition. -/
import Derived.Test.YtckoolpjphhfdaaR6
import Derived.Test.YtckoolpjphhfdaaP1
namespace Go.Proofs.Ytckoolpjphhfdaa
open Go Go.Abs Go.Proofs
set_option linter.unusedSimpArgs false
set_option linter.unusedVariables false
def threadsL (K : List Evt) : List Int := (K.filter fun e => decide ((relE e).1 = 2)).map fun e => (relE e).2
theorem threads_succ {K : List Evt} {k : Nat} (hk : k < K.length) : threadsL (K.take (k + 1)) = threadsL (K.take k) ++ if (relE K[k]).1 = 2 then [(relE K[k]).2] else [] := by
  unfold threadsL
  rw [List.take_succ_eq_append_getElem hk, List.filter_append, List.map_append]
  congr 1
  by_cases h : (relE K[k]).1 = 2 <;> simp [h]
theorem threads_len (K : List Evt) : (threadsL K).length ≤ K.length := by
  unfold threadsL; rw [List.length_map]; exact List.length_filter_le _ _
set_option maxRecDepth 8000 in
set_option maxHeartbeats 4000000 in
theorem threads_ac (l : List Evt) (hsz : l.length ≤ 100000) : AC Try.prog 20 [evs l] (ints (sortedL (threadsL (onceL l)))) := by
  refine AC.of_body Try.func20 rfl rfl Try.ntmps20 (congrArg Array.toList Try.results20) (by simp) (pures1 (pure_evs _)) (pure_ints _) fun w S' => AWp.of_vc [] ?_
  have hol := onceL_len l
  simp [go_sem]
  refine CallSem.pure (known_ac l hsz) (by simp [go_sem]) ?_
  generalize onceL l = K at hol ⊢
  have hm : K.length ≤ maxLen := by unfold maxLen; omega
  simp [go_sem]
  refine AWp.ownNil 3 3 1 (by simp [go_sem]) ?_
  refine AWp.loop_vc [] (fun m s => ∃ k v : Nat, k ≤ K.length ∧ m = K.length - k ∧ s.σ 8 = evs K ∧ s.σ 9 = I K.length ∧ s.σ 10 = I k ∧ s.σ 3 = .ref 3 v ∧ s.ver 3 = v ∧ s.h 3 = .arr 3 1 ((threadsL (K.take k)).map I)) K.length ⟨0, by simp [go_sem, threadsL]⟩ ?_
  rintro m s ⟨k, v, hk, rfl, h8, h9, h10, h3, hv3, hh3⟩
  by_cases hlt : k < K.length
  · have hsu := threads_succ hlt
    have htl := threads_len (K.take k)
    rw [List.length_take] at htl
    generalize threadsL (K.take k) = T at hh3 hsu htl
    simp [go_sem, h8, h9, h10, h3, hv3, hh3, hlt]
    refine CallSem.pure (rel_ac K[k]) (by simp [go_sem]) ?_
    by_cases hr : (relE K[k]).1 = 2
    · rw [if_pos hr] at hsu
      simp [go_sem, h8, h9, h10, h3, hv3, hh3, hlt, hr, wrap_succ hlt hm]
      exact ⟨⟨by omega, by omega⟩, K.length - (k + 1), by omega, k + 1, by omega, rfl, rfl, by rw [hsu]; simp [I]⟩
    · rw [if_neg hr] at hsu
      simp [go_sem, h8, h9, h10, h3, hv3, hh3, hlt, hr, wrap_succ hlt hm]
      exact ⟨K.length - (k + 1), by omega, k + 1, by omega, rfl, rfl, by rw [hsu]; simp⟩
  · obtain rfl : k = K.length := by omega
    rw [List.take_of_length_le (Nat.le_refl _)] at hh3
    have htl := threads_len K
    generalize threadsL K = T at hh3 htl ⊢
    simp [go_sem, h8, h9, h10, h3, hv3, hh3]
    refine CallSem.freeze 3 ?_
    simp [go_sem, h8, h9, h10, h3, hv3, hh3]
    refine CallSem.pure (numSorted_ac T (by omega)) (by simp [go_sem]) ?_
    rw [sortedSet_eq]
    simp [go_sem]
    refine PostR.ret ?_
    simp [go_sem]

def showOf (l : List Evt) (id : Int) : Bytes × Int :=
  match getE (onceL l) id with
  | none => ([], 5)
  | some e => if e.kind = 11 then (match getE (onceL l) (sumOf (onceL l) id).edit with
    | some f => (f.content.text, 0)
    | none => (e.content.text, 0)) else ([], 1)
theorem pureR_SI (a : Bytes) (b : Int) : PureR (.tup [S a, I b]) := by
  intro r hr
  simp only [List.mem_cons, List.not_mem_nil, or_false] at hr
  rcases hr with rfl | rfl <;> exact pure_v _
set_option maxRecDepth 8000 in
set_option maxHeartbeats 4000000 in
theorem show_ac (l : List Evt) (id : Int) (hsz : l.length ≤ 100000) : AC Try.prog 17 [evs l, I id] (.tup [S (showOf l id).1, I (showOf l id).2]) := by
  refine AC.of_body Try.func17 rfl rfl Try.ntmps17 (congrArg Array.toList Try.results17) (by simp) (pures2 (pure_evs _) (pure_I _)) (pureR_SI _ _) fun w S' => AWp.of_vc [] ?_
  have hol := onceL_len l
  unfold showOf
  simp [go_sem]
  refine CallSem.pure (known_ac l hsz) (by simp [go_sem]) ?_
  generalize onceL l = K at hol ⊢
  simp [go_sem]
  refine CallSem.pure (find_ac K id) (by simp [go_sem]) ?_
  cases hg : getE K id with
  | none =>
    simp [go_sem]
    refine PostR.ret ?_
    simp [go_sem]
  | some e =>
    by_cases hk : e.kind = 11
    · simp [go_sem, hk]
      refine CallSem.pure (sum_ac K id (by omega)) (by simp [go_sem]) ?_
      simp [go_sem, sumAV, sumc]
      refine CallSem.pure (find_ac K (sumOf K id).edit) (by simp [go_sem]) ?_
      cases hg2 : getE K (sumOf K id).edit with
      | none =>
        simp [go_sem]
        refine PostR.ret ?_
        simp [go_sem]
      | some f =>
        simp [go_sem]
        refine PostR.ret ?_
        simp [go_sem]
    · simp [go_sem, hk]
      refine PostR.ret ?_
      simp [go_sem]

end Go.Proofs.Ytckoolpjphhfdaa
