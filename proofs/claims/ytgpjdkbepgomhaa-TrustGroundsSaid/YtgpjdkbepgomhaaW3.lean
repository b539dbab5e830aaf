/- The laws of chapter 46, as contracts: TrustGrounds. No condition. -/
import Derived.Test.YtgpjdkbepgomhaaW1
namespace Go.Proofs.Ytgpjdkbepgomhaa
open Go Go.Abs
set_option linter.unusedSimpArgs false
set_option maxRecDepth 8000 in
set_option maxHeartbeats 4000000 in
theorem trustGrounds_law (c : CaseD) : AC Try.prog 5 [cs c] (B true) := by
  refine AC.of_body Try.func5 rfl rfl Try.ntmps5 (congrArg Array.toList Try.results5) (by simp) (pures1 (pure_cs _)) (pure_B _) fun w S' => AWp.of_vc [] ?_
  simp [go_sem]
  refine CallSem.pure (small_ac c) (by simp [go_sem]) ?_
  by_cases hs : Small c
  case neg =>
    simp [go_sem, hs]
    refine CallSem.pure lives_ac (by simp [go_sem]) ?_
    simp [go_sem]
    refine PostR.ret ?_
    simp [go_sem]
  have hu : c.other.user.length ≤ 1000 := by have := hs.2.2.2.2.2.1; omega
  have hd : c.device.length ≤ 1000 := by have := hs.2.2.2.2.2.2.1; omega
  have l1 : ¬ (9223372036854775807 < (c.other.user.length : Int) + 1) := by omega
  have l2 : ¬ (9223372036854775807 < (c.other.user.length : Int) + 1 + c.device.length) := by omega
  simp [go_sem, hs]
  refine CallSem.pure (of_ac c hu hd) (by simp [go_sem]) ?_
  simp [go_sem]
  refine CallSem.pure (place_ac c.other.devices c.device) (by simp [go_sem]) ?_
  rcases idx_find c.other.devices c.device with ⟨hf, hi⟩ | ⟨k, hk, hf, hi⟩
  · have hT : trustOf c.own c.other c.device c.verified c.blocked = 0 := by simp [trustOf, hf]
    simp [go_sem, hi, hT]
    refine CallSem.pure lives_ac (by simp [go_sem]) ?_
    simp [go_sem]
    refine PostR.ret ?_
    simp [go_sem]
  have hneg : ¬ ((k : Int) < 0) := by omega
  by_cases hb : c.other.user ++ 47 :: c.device ∈ c.blocked
  · have hT : trustOf c.own c.other c.device c.verified c.blocked = 0 := by simp [trustOf, hf, hb]
    simp [go_sem, hi, hT]
    refine CallSem.pure lives_ac (by simp [go_sem]) ?_
    simp [go_sem]
    refine PostR.ret ?_
    simp [go_sem]
  by_cases hg : c.other.devices[k].signed = false ∨ c.other.master = 0
  · have hT : trustOf c.own c.other c.device c.verified c.blocked = 1 := by simp [trustOf, hf, hb, hg]
    simp [go_sem, hi, hT, hneg, l1, l2]
    refine CallSem.pure (hasText_ac c.blocked (c.other.user ++ 47 :: c.device)) (by simp [go_sem]) ?_
    simp [go_sem, hb]
    refine CallSem.pure lives_ac (by simp [go_sem]) ?_
    simp [go_sem]
    refine PostR.ret ?_
    simp [go_sem]
  have hs' : c.other.devices[k].signed = true := by
    rcases Bool.eq_false_or_eq_true c.other.devices[k].signed with h | h
    · exact h
    · exact (hg (.inl h)).elim
  have hm : ¬ c.other.master = 0 := fun h => hg (.inr h)
  by_cases hv : c.other.master ∈ c.verified ∨ (c.own.user = c.other.user ∧ c.own.master = c.other.master)
  · have hT : trustOf c.own c.other c.device c.verified c.blocked = 3 := by simp only [trustOf, hf]; rw [if_neg hb, if_neg hg, if_pos hv]
    simp [go_sem, hi, hT, hneg, l1, l2]
    refine CallSem.pure (hasText_ac c.blocked (c.other.user ++ 47 :: c.device)) (by simp [go_sem]) ?_
    simp [go_sem, hb, hi, hk, hs', hm]
    refine CallSem.pure (has_ac c.verified c.other.master) (by simp [go_sem]) ?_
    by_cases hv1 : c.other.master ∈ c.verified
    · simp [go_sem, hv1]
      refine CallSem.pure lives_ac (by simp [go_sem]) ?_
      simp [go_sem]
      refine PostR.ret ?_
      simp [go_sem]
    · obtain ⟨ho, hw⟩ := hv.resolve_left hv1
      simp [go_sem, hv1, ho, hw]
      refine CallSem.pure lives_ac (by simp [go_sem]) ?_
      simp [go_sem]
      refine PostR.ret ?_
      simp [go_sem]
  · have hT : trustOf c.own c.other c.device c.verified c.blocked = 2 := by simp only [trustOf, hf]; rw [if_neg hb, if_neg hg, if_neg hv]
    simp [go_sem, hi, hT, hneg, l1, l2]
    refine CallSem.pure (hasText_ac c.blocked (c.other.user ++ 47 :: c.device)) (by simp [go_sem]) ?_
    simp [go_sem, hb, hi, hk, hs', hm]
    refine CallSem.pure lives_ac (by simp [go_sem]) ?_
    simp [go_sem]
    refine PostR.ret ?_
    simp [go_sem]
end Go.Proofs.Ytgpjdkbepgomhaa
