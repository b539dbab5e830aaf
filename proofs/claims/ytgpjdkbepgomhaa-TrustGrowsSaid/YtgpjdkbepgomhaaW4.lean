/- The laws of chapter 46, as contracts: TrustGrows. No condition. -/
import Derived.Test.YtgpjdkbepgomhaaW1
namespace Go.Proofs.Ytgpjdkbepgomhaa
open Go Go.Abs
set_option linter.unusedSimpArgs false
set_option linter.unusedVariables false
def moreC (c : CaseD) (m : Int) : CaseD := { c with verified := verifyL c.verified m }
def lessC (c : CaseD) (u : Bytes) : CaseD := { c with blocked := c.blocked ++ [u ++ 47 :: c.device] }
def ofC (c : CaseD) : Int := trustOf c.own c.other c.device c.verified c.blocked
theorem trust_le (own other : KeysD) (d : Bytes) (v v' : List Int) (b b' : List Bytes) (hv : ∀ x ∈ v, x ∈ v') (hb : ∀ x ∈ b', x ∈ b) : trustOf own other d v b ≤ trustOf own other d v' b' := by
  unfold trustOf
  cases findD other.devices d with
  | none => exact Int.le_refl _
  | some x =>
    simp only []
    by_cases g : other.user ++ 47 :: d ∈ b
    · rw [if_pos g]; split
      · exact Int.le_refl _
      · split
        · omega
        · split <;> omega
    · rw [if_neg g, if_neg (fun h => g (hb _ h))]
      by_cases g1 : x.signed = false ∨ other.master = 0
      · rw [if_pos g1, if_pos g1]; exact Int.le_refl _
      · rw [if_neg g1, if_neg g1]
        by_cases g2 : other.master ∈ v ∨ (own.user = other.user ∧ own.master = other.master)
        · rw [if_pos g2, if_pos (g2.imp_left (hv _))]; exact Int.le_refl _
        · rw [if_neg g2]; split <;> omega
theorem mem_verify (l : List Int) (m x : Int) (h : x ∈ l) : x ∈ verifyL l m := by
  have hs := sortedL_sorted l
  unfold verifyL
  split
  · exact ((putL_spec _ _ hs.1).2 x).2 (.inl ((hs.2 x).2 h))
  · exact (hs.2 x).2 h
theorem more_le (c : CaseD) (m : Int) : ofC c ≤ ofC (moreC c m) := trust_le _ _ _ _ _ _ _ (fun x h => mem_verify _ _ _ h) (fun _ h => h)
theorem less_le (c : CaseD) (u : Bytes) : ofC (lessC c u) ≤ ofC c := trust_le _ _ _ _ _ _ _ (fun _ h => h) (fun x h => List.mem_append.2 (.inl h))
theorem less_blocked (c : CaseD) : ofC (lessC c c.other.user) = 0 := by
  unfold ofC lessC trustOf
  cases findD c.other.devices c.device with
  | none => rfl
  | some x =>
    simp only []
    rw [if_pos (List.mem_append.2 (.inr (List.mem_singleton.2 rfl)))]
set_option maxRecDepth 8000 in
set_option maxHeartbeats 4000000 in
theorem trustGrows_law (c : CaseD) (m : Int) (u : Bytes) : AC Try.prog 6 [cs c, I m, S u] (B true) := by
  refine AC.of_body Try.func6 rfl rfl Try.ntmps6 (congrArg Array.toList Try.results6) (by simp) (pures3 (pure_cs _) (pure_v _) (pure_v _)) (pure_B _) fun w S' => AWp.of_vc [8, 9] ?_
  simp [go_sem]
  refine CallSem.pure (small_ac c) (by simp [go_sem]) ?_
  by_cases hs : Small c
  case neg =>
    simp [go_sem, hs]
    refine CallSem.pure lives_ac (by simp [go_sem]) ?_
    simp [go_sem]
    refine PostR.ret ?_
    simp [go_sem]
  have hu : c.other.user.length ≤ 1000 := by have := hs.2.2.2.2.2.1; omega
  have hd : c.device.length ≤ 1000 := by have := hs.2.2.2.2.2.2.1; omega
  by_cases hl : (100 : Int) < u.length
  · simp [go_sem, hs, hl]
    refine CallSem.pure lives_ac (by simp [go_sem]) ?_
    simp [go_sem]
    refine PostR.ret ?_
    simp [go_sem]
  have hinj : ∀ d d' : Nat, d ≠ d' → d ≠ d' := fun _ _ h => h
  have hv : c.verified.length ≤ 60 := hs.2.2.1
  have hb : c.blocked.length ≤ 60 := hs.2.2.2.1
  have l1 : ¬ (9223372036854775807 < (u.length : Int) + 1) := by omega
  have l2 : ¬ (9223372036854775807 < (u.length : Int) + 1 + c.device.length) := by omega
  simp [go_sem, hs, hl]
  have o1 : AC Try.prog 9 [cs c] (I (ofC c)) := of_ac c hu hd
  have o2 : AC Try.prog 9 [cs (moreC c m)] (I (ofC (moreC c m))) := of_ac (moreC c m) hu hd
  have o3 : ∀ L, (c.blocked ++ [u ++ 47 :: c.device]).map S = L → AC Try.prog 9 [.agg [S c.own.user, I c.own.master, I c.own.pos, dvs c.own.devices, S c.other.user, I c.other.master, I c.other.pos, dvs c.other.devices, S c.device, ints c.verified, .lst 1 L, B c.strict]] (I (ofC (lessC c u))) := fun L hL => hL ▸ of_ac (lessC c u) hu hd
  have f2 := more_le c m
  have f3 := less_le c u
  have f4 : u = c.other.user → ofC (lessC c u) = 0 := fun h => by rw [h]; exact less_blocked c
  refine CallSem.pure o1 (by simp [go_sem]) ?_
  generalize ofC c = T1 at f2 f3
  simp [go_sem]
  refine CallSem.pure (verify_ac c.verified m (by omega)) (by simp [go_sem]) ?_
  simp [go_sem]
  refine AWp.drawAny [28] [28] [9] [] [1, 2, 4, 5, 6, 7, 8, 9, 0, 3, 10, 11, 12] rfl (by kernel_rfl) hinj rfl ?_
  simp [go_sem, l1, l2]
  refine ⟨⟨by omega, by omega⟩, ⟨by omega, by omega⟩, ?_⟩
  refine CallSem.freeze 28 ?_
  refine CallSem.pure o2 (by simp [go_sem, moreC]) ?_
  generalize ofC (moreC c m) = T2 at f2
  have g2 : ¬ (T2 < T1) := by omega
  simp [go_sem, g2]
  refine CallSem.pure (o3 _ (by simp [go_sem])) (by simp [go_sem]) ?_
  generalize hT3 : ofC (lessC c u) = T3 at f3 f4
  have g3 : ¬ (T1 < T3) := by omega
  simp [go_sem, g3]
  by_cases he : u = c.other.user
  · have h4 := f4 he
    subst h4
    subst he
    simp [go_sem]
    refine CallSem.pure (o3 _ (by simp [go_sem])) (by simp [go_sem]) ?_
    rw [hT3]
    simp [go_sem]
    refine CallSem.pure lives_ac (by simp [go_sem]) ?_
    simp [go_sem]
    refine PostR.ret ?_
    simp [go_sem]
  · have he2 : (u == c.other.user) = false := by simpa using he
    simp [go_sem, he, he2]
    refine CallSem.pure lives_ac (by simp [go_sem]) ?_
    simp [go_sem]
    refine PostR.ret ?_
    simp [go_sem]

end Go.Proofs.Ytgpjdkbepgomhaa
