/- The laws of chapter 10, as contracts: Events. No condition. -/
import Derived.Test.YtlhaopapeggefaaS10
import Derived.Test.YtlhaopapeggefaaE2
namespace Go.Proofs.Ytlhaopapeggefaa
open Go Go.Abs
set_option linter.unusedSimpArgs false
set_option maxRecDepth 8000 in
set_option maxHeartbeats 4000000 in
theorem events_law (l : List Evt) (s : List EntD) : AC Try.prog 9 [evs l, ents s] (B true) := by
  refine AC.of_body Try.func9 rfl rfl Try.ntmps9 (congrArg Array.toList Try.results9) (by simp) (pures2 (pure_evs _) (pure_ents _)) (pure_B _) fun w S' => AWp.of_vc [] ?_
  by_cases g : (40 : Int) < l.length
  · simp [go_sem, g]
    refine CallSem.pure lives_ac (by simp [go_sem]) ?_
    simp [go_sem]
    refine PostR.ret ?_
    simp [go_sem]
  have hm : l.length ≤ maxLen := by unfold maxLen; omega
  simp [go_sem, g]
  refine CallSem.pure (short_ac s) (by simp [go_sem]) ?_
  cases hs : shortOf s with
  | false =>
    simp [go_sem]
    refine CallSem.pure lives_ac (by simp [go_sem]) ?_
    simp [go_sem]
    refine PostR.ret ?_
    simp [go_sem]
  | true =>
    obtain ⟨h1, h2, _, _⟩ := short_spec hs
    simp [go_sem]
    refine AWp.loop_vc [] (fun m s' => ∃ k : Nat, k ≤ l.length ∧ m = l.length - k ∧ s'.σ 0 = evs l ∧ s'.σ 1 = ents s ∧ s'.σ 5 = I k) l.length ⟨0, by simp [go_sem]⟩ ?_
    rintro m s' ⟨k, hk, rfl, g0, g1, g5⟩
    by_cases hlt : k < l.length
    · by_cases hp : (100 : Int) < l[k].key.length
      · simp [go_sem, g0, g1, g5, hlt, hp]
        refine CallSem.pure lives_ac (by simp [go_sem]) ?_
        simp [go_sem]
        refine PostR.ret ?_
        simp [go_sem]
      · simp [go_sem, g0, g1, g5, hlt, hp, wrap_succ hlt hm]
        exact ⟨l.length - (k + 1), by omega, k + 1, by omega, rfl, rfl⟩
    · simp [go_sem, g0, g1, g5, hlt]
      refine CallSem.pure (of_ac l (by omega)) (by simp [go_sem]) ?_
      simp [go_sem, g0, g1, g5]
      refine CallSem.pure (rof_ac l (by omega)) (by simp [go_sem]) ?_
      simp [go_sem, g0, g1, g5]
      refine CallSem.pure (rsame_ac (ofOf l) (ofOf l)) (by simp [go_sem]) ?_
      simp [go_sem, g0, g1, g5]
      refine CallSem.pure (events_ac l s (by omega)) (by simp [go_sem]) ?_
      simp [go_sem, g0, g1, g5]
      refine CallSem.pure (revents_ac l s (by omega)) (by simp [go_sem]) ?_
      simp [go_sem, g0, g1, g5]
      refine CallSem.pure (sameAll_refl (eventsOf l s)) (by simp [go_sem]) ?_
      simp [go_sem]
      refine CallSem.pure lives_ac (by simp [go_sem]) ?_
      simp [go_sem]
      refine PostR.ret ?_
      simp [go_sem]

end Go.Proofs.Ytlhaopapeggefaa
