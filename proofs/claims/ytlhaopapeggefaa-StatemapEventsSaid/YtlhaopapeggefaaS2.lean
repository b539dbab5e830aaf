/- Contracts of chapter 10: loops over a state's entries. No condition. -/
import Derived.Test.YtlhaopapeggefaaS1
namespace Go.Proofs.Ytlhaopapeggefaa
open Go Go.Abs
set_option linter.unusedSimpArgs false

/-- The same memory below 20000, but for one number. -/
def Agree (R : Nat) (s1 s2 : St) : Prop := ∀ id, id < 20000 → id ≠ R → s2.ver id = s1.ver id ∧ s2.h id = s1.h id
/-- What a round must come to. -/
def EachPost (R V : Nat) (r : Loop) (st : St) (Inv : St → Prop) (Q : Exit → St → Prop) : Exit → St → Prop
  | .normal, s => (s.ver R = V ∧ s.h R = recB r .busy none) ∧ Inv (st.mem s)
  | .ret, s => (s.ver R = V ∧ s.h R = recB r .busy none) ∧ Q .ret (st.mem (s.setH R .none))
  | .exit id, s => (s.ver R = V ∧ s.h R = recB r .busy none) ∧ Q (.exit id) (st.mem (s.setH R .none))
  | _, _ => False
theorem w_ep_normal (R V : Nat) (r : Loop) (st : St) (Inv : St → Prop) (Q : Exit → St → Prop) (s : St) : EachPost R V r st Inv Q .normal s = ((s.ver R = V ∧ s.h R = recB r .busy none) ∧ Inv (st.mem s)) := nrfl _
theorem w_ep_ret (R V : Nat) (r : Loop) (st : St) (Inv : St → Prop) (Q : Exit → St → Prop) (s : St) : EachPost R V r st Inv Q .ret s = ((s.ver R = V ∧ s.h R = recB r .busy none) ∧ Q .ret (st.mem (s.setH R .none))) := nrfl _
theorem w_ep_exit (R V : Nat) (r : Loop) (st : St) (Inv : St → Prop) (Q : Exit → St → Prop) (s : St) (id : Nat) : EachPost R V r st Inv Q (.exit id) s = ((s.ver R = V ∧ s.h R = recB r .busy none) ∧ Q (.exit id) (st.mem (s.setH R .none))) := nrfl _
attribute [go_sem ↓] w_ep_normal w_ep_ret w_ep_exit

theorem mem_set {R : Nat} (st si s : St) (b : Blk) (d d' : Nat) (x x' : AV) : st.mem ((((si.mem (s.setH R b)).put (some d) x).put (some d') x').setH R .none) = st.mem (s.setH R .none) := by
  simp only [St.mem, St.setH, St.put]
  congr 1
  funext j
  by_cases h : j = R <;> simp [upd, h]

set_option maxRecDepth 8000 in
set_option maxHeartbeats 4000000 in
theorem range_each {w0 : World} {S0 : Nat → Prop} {n : Nat} {e00 : Option Env} {st : St} {g : Operand} {ps : Array Tmp} {assign body : Code} {Q : Exit → St → Prop} {s : List EntD} (R : Nat) (hRn : R < 20000)
    (hg : st.ev g = .fn (.func 46) [] [.eptr [ents s] 0]) (hps1 : ps.size = 1) (hps : ∀ t ∈ ps.toList, t < n) (hlen : s.length ≤ maxLen)
    (Inv : Nat → St → Prop) (low : ∀ k s1 s2, Inv k s1 → s2.σ = s1.σ → Agree R s1 s2 → Inv k s2) (h0 : Inv 0 st)
    (round : ∀ (k : Nat) (hk : k < s.length) (s1 : St) (l : Nat) (r : Loop) (V : Nat) (e0 : Option Env), Inv k s1 → s1.σ = st.σ → s1.ver R = V → s1.h R = recB r .ready none →
      AWp ⟨Try.prog, w0, S0, n, some l, fun d => d, e0⟩ assign (PostAssign ⟨Try.prog, w0, S0, n, none, fun d => d, e00⟩ l R V r body (EachPost R V r st (Inv (k + 1)) Q)) ⟨fillSlots st.σ ps.toList [ent s[k]], s1.ver, s1.h⟩)
    (done : ∀ s1, Inv s.length s1 → s1.σ = st.σ → Q .normal s1) : AWp ⟨Try.prog, w0, S0, n, none, fun d => d, e00⟩ (.rangeFunc g ps assign body) Q st := by
  refine AWp.rangeFunc R 20000 rfl hg Try.func46 rfl rfl Try.ntmps46 (congrArg Array.toList Try.results46) (by simp) fun l r e0 L => AWp.of_vc [4] ?_
  simp [go_sem]
  have hne : ∀ d, ¬ d + 20000 = R := fun d => by omega
  have hne' : ∀ d, ¬ R = d + 20000 := fun d => by omega
  refine AWp.loop_vc [] (fun m s' => ∃ k : Nat, k ≤ s.length ∧ m = s.length - k ∧ s'.σ 0 = .v (.func (.yield l) #[] #[]) ∧ s'.σ 5 = ents s ∧ s'.σ 6 = I s.length ∧ s'.σ 7 = I k ∧ s'.ver R = st.ver R + 1 ∧ s'.h R = recB r .ready none ∧ Inv k (st.mem s')) s.length ⟨0, by simp, by simp, by simp [go_sem], by simp [go_sem], by simp [go_sem], by simp [go_sem], by simp [go_sem], by simp [go_sem], low 0 st _ h0 rfl fun id h1 h2 => by simp [go_sem, h2]⟩ ?_
  rintro m s' ⟨k, hk, rfl, g0, g5, g6, g7, gV, gR, gI⟩
  by_cases hlt : k < s.length
  · simp [go_sem, g0, g5, g6, g7, hlt, hne 4, hne' 4]
    refine YieldSem.round L (by simp [go_sem]) (by simp [hps1]) hps (by simp [go_sem, gV, hne 4, hne' 4]) (by simp [go_sem, gR, hne 4, hne' 4]) fun e0 => ?_
    refine AWp.mono (round k hlt (st.mem _) l r (st.ver R + 1) e0 (low k _ _ gI rfl fun id h1 h2 => ?_) rfl (by simp [go_sem, gV, hne 4, hne' 4]) (by simp [go_sem, gR, hne 4, hne' 4])) fun e s1 hpa => PostAssign.mono (fun e2 s2 h2 => ?_) hpa
    · have : ¬ id = 20004 := by omega
      simp [go_sem, this]
    cases e2 with
    | normal =>
      obtain ⟨hc, hi⟩ := h2
      refine ⟨hc, ?_⟩
      simp [go_sem, g0, g5, g6, g7, hlt]
      refine ⟨s.length - (k + 1), by omega, k + 1, by omega, rfl, by rw [wrap_succ hlt hlen]; rfl, by rw [hc.1], low _ _ _ hi rfl fun id h1 h2 => by simp [go_sem, h2]⟩
    | ret =>
      obtain ⟨hc, hi⟩ := h2
      refine ⟨hc, ?_⟩
      simp [go_sem]
      refine ⟨by rw [hc.1], .inr ⟨.ret, rfl, AWp.ret ?_⟩⟩
      rw [mem_set]
      exact hi
    | exit id =>
      obtain ⟨hc, hi⟩ := h2
      refine ⟨hc, ?_⟩
      simp [go_sem]
      refine ⟨by rw [hc.1], .inr ⟨.exit id, rfl, AWp.exit ?_⟩⟩
      rw [mem_set]
      exact hi
    | _ => exact h2.elim
  · have hk' : k = s.length := by omega
    subst hk'
    simp [go_sem, g0, g5, g6, g7]
    refine ⟨gV, .inl ⟨gR, done _ (low _ _ _ gI rfl fun id h1 h2 => by simp [go_sem, h2]) rfl⟩⟩
end Go.Proofs.Ytlhaopapeggefaa
