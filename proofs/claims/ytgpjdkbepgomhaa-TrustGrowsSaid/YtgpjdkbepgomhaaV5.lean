/- Contracts of chapter 46: small. No condition. -/
import Derived.Test.YtgpjdkbepgomhaaV4
namespace Go.Proofs.Ytgpjdkbepgomhaa
open Go Go.Abs
set_option linter.unusedSimpArgs false
def Small (c : CaseD) : Prop := c.own.devices.length ≤ 30 ∧ c.other.devices.length ≤ 30 ∧ c.verified.length ≤ 60 ∧ c.blocked.length ≤ 60 ∧ c.own.user.length ≤ 100 ∧ c.other.user.length ≤ 100 ∧ c.device.length ≤ 100 ∧
  (∀ d ∈ c.other.devices, d.id.length ≤ 100) ∧ ∀ b ∈ c.blocked, b.length ≤ 300
instance (c : CaseD) : Decidable (Small c) := by unfold Small; infer_instance

set_option maxRecDepth 8000 in
set_option maxHeartbeats 4000000 in
theorem small_ac (c : CaseD) : AC Try.prog 7 [cs c] (B (decide (Small c))) := by
  refine AC.of_body Try.func7 rfl rfl Try.ntmps7 (congrArg Array.toList Try.results7) (by simp) (pures1 (pure_cs _)) (pure_B _) fun w S' => AWp.of_vc [] ?_
  by_cases g1 : (30 : Int) < c.own.devices.length
  · have hn : ¬ Small c := fun h => by have := h.1; omega
    simp [go_sem, g1, hn]
    refine PostR.ret ?_
    simp [go_sem]
  by_cases g2 : (30 : Int) < c.other.devices.length
  · have hn : ¬ Small c := fun h => by have := h.2.1; omega
    simp [go_sem, g1, g2, hn]
    refine PostR.ret ?_
    simp [go_sem]
  by_cases g3 : (60 : Int) < c.verified.length
  · have hn : ¬ Small c := fun h => by have := h.2.2.1; omega
    simp [go_sem, g1, g2, g3, hn]
    refine PostR.ret ?_
    simp [go_sem]
  by_cases g4 : (60 : Int) < c.blocked.length
  · have hn : ¬ Small c := fun h => by have := h.2.2.2.1; omega
    simp [go_sem, g1, g2, g3, g4, hn]
    refine PostR.ret ?_
    simp [go_sem]
  by_cases g5 : (100 : Int) < c.own.user.length
  · have hn : ¬ Small c := fun h => by have := h.2.2.2.2.1; omega
    simp [go_sem, g1, g2, g3, g4, g5, hn]
    refine PostR.ret ?_
    simp [go_sem]
  by_cases g6 : (100 : Int) < c.other.user.length
  · have hn : ¬ Small c := fun h => by have := h.2.2.2.2.2.1; omega
    simp [go_sem, g1, g2, g3, g4, g5, g6, hn]
    refine PostR.ret ?_
    simp [go_sem]
  by_cases g7 : (100 : Int) < c.device.length
  · have hn : ¬ Small c := fun h => by have := h.2.2.2.2.2.2.1; omega
    simp [go_sem, g1, g2, g3, g4, g5, g6, g7, hn]
    refine PostR.ret ?_
    simp [go_sem]
  simp [go_sem, g1, g2, g3, g4, g5, g6, g7]
  refine AWp.loop_vc [] (fun m s => ∃ k : Nat, k ≤ c.other.devices.length ∧ m = c.other.devices.length - k ∧ s.σ 1 = .eptr (csc c) 0 ∧ s.σ 3 = I k ∧ ∀ j (x : DevD), j < k → c.other.devices[j]? = some x → x.id.length ≤ 100) c.other.devices.length ⟨0, by simp [go_sem]⟩ ?_
  rintro m s ⟨k, hk, rfl, h1, h3, hno⟩
  by_cases hlt : k < c.other.devices.length
  · by_cases hp : (100 : Int) < c.other.devices[k].id.length
    · have hn : ¬ Small c := fun h => by have := h.2.2.2.2.2.2.2.1 _ (List.getElem_mem hlt); omega
      simp [go_sem, h1, h3, hlt, hp, hn]
      refine PostR.ret ?_
      simp [go_sem]
    · simp [go_sem, h1, h3, hlt, hp]
      refine ⟨c.other.devices.length - (k + 1), by omega, k + 1, by omega, rfl, by rw [wrap_succ hlt (show c.other.devices.length ≤ maxLen by unfold maxLen; omega)]; rfl, ?_⟩
      intro j x hj hx
      rcases Nat.lt_succ_iff_lt_or_eq.1 hj with hj | rfl
      · exact hno j x hj hx
      · rw [List.getElem?_eq_getElem hlt] at hx; cases hx; omega
  · simp [go_sem, h1, h3, hlt]
    refine AWp.loop_vc [] (fun m s => ∃ k : Nat, k ≤ c.blocked.length ∧ m = c.blocked.length - k ∧ s.σ 1 = .eptr (csc c) 0 ∧ s.σ 4 = I k ∧ ∀ j (x : Bytes), j < k → c.blocked[j]? = some x → x.length ≤ 300) c.blocked.length ⟨0, by simp [go_sem, h1]⟩ ?_
    rintro m s ⟨q, hq, rfl, f1, f4, hyes⟩
    by_cases hqt : q < c.blocked.length
    · by_cases hp : (300 : Int) < c.blocked[q].length
      · have hn : ¬ Small c := fun h => by have := h.2.2.2.2.2.2.2.2 _ (List.getElem_mem hqt); omega
        simp [go_sem, f1, f4, hqt, hp, hn]
        refine PostR.ret ?_
        simp [go_sem]
      · simp [go_sem, f1, f4, hqt, hp]
        refine ⟨c.blocked.length - (q + 1), by omega, q + 1, by omega, rfl, by rw [wrap_succ hqt (show c.blocked.length ≤ maxLen by unfold maxLen; omega)]; rfl, ?_⟩
        intro j x hj hx
        rcases Nat.lt_succ_iff_lt_or_eq.1 hj with hj | rfl
        · exact hyes j x hj hx
        · rw [List.getElem?_eq_getElem hqt] at hx; cases hx; omega
    · have hs : Small c := ⟨by omega, by omega, by omega, by omega, by omega, by omega, by omega, fun d hd => by
          obtain ⟨j, hj, rfl⟩ := List.mem_iff_getElem.1 hd
          exact hno j _ (by omega) (List.getElem?_eq_getElem hj), fun b hb => by
          obtain ⟨j, hj, rfl⟩ := List.mem_iff_getElem.1 hb
          exact hyes j _ (by omega) (List.getElem?_eq_getElem hj)⟩
      simp [go_sem, f1, f4, hqt, hs]
      refine PostR.ret ?_
      simp [go_sem]
end Go.Proofs.Ytgpjdkbepgomhaa
