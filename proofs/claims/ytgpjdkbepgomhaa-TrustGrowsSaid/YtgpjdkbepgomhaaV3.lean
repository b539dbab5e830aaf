/- Contracts of chapter 46: rule, Of. No condition. -/
import Derived.Test.YtgpjdkbepgomhaaV2
namespace Go.Proofs.Ytgpjdkbepgomhaa
open Go Go.Abs
set_option linter.unusedSimpArgs false
def ruleOf (own other : KeysD) (device : Bytes) (verified : List Int) (blocked : List Bytes) : Int :=
  match findD other.devices device with
  | none => 0
  | some d => if other.user ++ 47 :: device ∈ blocked then 0
    else if d.signed = false ∨ other.master = 0 then 1
    else if other.master ∈ verified ∨ (own.user = other.user ∧ own.master = other.master) then 2 else 3
def trustOf (own other : KeysD) (device : Bytes) (verified : List Int) (blocked : List Bytes) : Int :=
  match findD other.devices device with
  | none => 0
  | some d => if other.user ++ 47 :: device ∈ blocked then 0
    else if d.signed = false ∨ other.master = 0 then 1
    else if other.master ∈ verified ∨ (own.user = other.user ∧ own.master = other.master) then 3 else 2

set_option maxRecDepth 4000 in
set_option maxHeartbeats 2000000 in
theorem rule_ac (own other : KeysD) (device : Bytes) (verified : List Int) (blocked : List Bytes) (hu : other.user.length ≤ 1000) (hd : device.length ≤ 1000) :
    AC Try.prog 29 [ks own, ks other, S device, ints verified, strs blocked] (I (ruleOf own other device verified blocked)) := by
  refine AC.of_body Try.func29 rfl rfl Try.ntmps29 (congrArg Array.toList Try.results29) (by simp) (pures5 (pure_ks _) (pure_ks _) (pure_S _) (pure_ints _) (pure_strs _)) (pure_I _) fun w S' => AWp.of_vc [] ?_
  simp [go_sem]
  refine CallSem.pure (find_ac other device) (by simp [go_sem]) ?_
  cases hf : findD other.devices device with
  | none =>
    simp [go_sem, zeroDev]
    refine PostR.ret ?_
    simp [go_sem, ruleOf, hf]
  | some d =>
    have l1 : ¬ (9223372036854775807 < (other.user.length : Int) + 1) := by omega
    have l2 : ¬ (9223372036854775807 < (other.user.length : Int) + 1 + device.length) := by omega
    simp [go_sem, l1, l2]
    refine CallSem.pure (containsS_ac blocked (other.user ++ 47 :: device)) (by simp [go_sem]) ?_
    by_cases hb : other.user ++ 47 :: device ∈ blocked
    · simp [go_sem, hb]
      refine PostR.ret ?_
      simp [go_sem, ruleOf, hf, hb]
    · rcases Bool.eq_false_or_eq_true d.signed with hs | hs
      · by_cases hm : other.master = 0
        · simp [go_sem, hb, hs, hm]
          refine PostR.ret ?_
          simp [go_sem, ruleOf, hf, hb, hs, hm]
        · simp [go_sem, hb, hs, hm]
          refine CallSem.pure (numHas_ac verified other.master) (by simp [go_sem]) ?_
          by_cases hv : other.master ∈ verified
          · simp [go_sem, hv]
            refine PostR.ret ?_
            simp [go_sem, ruleOf, hf, hb, hs, hm, hv]
          · by_cases ho : own.user = other.user
            · by_cases hw : own.master = other.master
              · simp [go_sem, hv, ho, hw]
                refine PostR.ret ?_
                simp [go_sem, ruleOf, hf, hb, hs, hm, hv, ho, hw]
              · simp [go_sem, hv, ho, hw]
                refine PostR.ret ?_
                simp [go_sem, ruleOf, hf, hb, hs, hm, hv, ho, hw]
            · simp [go_sem, hv, ho]
              refine PostR.ret ?_
              simp [go_sem, ruleOf, hf, hb, hs, hm, hv, ho]
      · simp [go_sem, hb, hs]
        refine PostR.ret ?_
        simp [go_sem, ruleOf, hf, hb, hs]

theorem ruleOf_trust (own other : KeysD) (device : Bytes) (verified : List Int) (blocked : List Bytes) :
    trustOf own other device verified blocked = if ruleOf own other device verified blocked = 0 then 0 else if ruleOf own other device verified blocked = 1 then 1 else if ruleOf own other device verified blocked = 2 then 3 else 2 := by
  unfold trustOf ruleOf
  split
  · rfl
  · split
    · rfl
    · split
      · rfl
      · split <;> rfl

set_option maxRecDepth 4000 in
set_option maxHeartbeats 2000000 in
theorem trust_ac (own other : KeysD) (device : Bytes) (verified : List Int) (blocked : List Bytes) (hu : other.user.length ≤ 1000) (hd : device.length ≤ 1000) :
    AC Try.prog 23 [ks own, ks other, S device, ints verified, strs blocked] (I (trustOf own other device verified blocked)) := by
  refine AC.of_body Try.func23 rfl rfl Try.ntmps23 (congrArg Array.toList Try.results23) (by simp) (pures5 (pure_ks _) (pure_ks _) (pure_S _) (pure_ints _) (pure_strs _)) (pure_I _) fun w S' => AWp.of_vc [] ?_
  rw [ruleOf_trust]
  simp [go_sem]
  refine CallSem.pure (rule_ac own other device verified blocked hu hd) (by simp [go_sem]) ?_
  by_cases h0 : ruleOf own other device verified blocked = 0
  · simp [go_sem, h0]
    refine PostR.ret ?_
    simp [go_sem]
  · by_cases h1 : ruleOf own other device verified blocked = 1
    · simp [go_sem, h0, h1]
      refine PostR.ret ?_
      simp [go_sem]
    · by_cases h2 : ruleOf own other device verified blocked = 2
      · simp [go_sem, h0, h1, h2]
        refine PostR.ret ?_
        simp [go_sem]
      · simp [go_sem, h0, h1, h2]
        refine PostR.ret ?_
        simp [go_sem]
end Go.Proofs.Ytgpjdkbepgomhaa
