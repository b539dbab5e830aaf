/- Contracts of chapter 10: all, InAll, the reference's Diff. No condition. -/
import Derived.Test.YtlhaopapeggefaaS5
namespace Go.Proofs.Ytlhaopapeggefaa
open Go Go.Abs
set_option linter.unusedSimpArgs false
def allOf (l : List (List EntD)) (e : EntD) : Bool := l.all fun s => getOf s e.kind e.key == some e.id
def rallOf (l : List (List EntD)) (e : EntD) : Bool := l.all fun s => rgetOf s e.kind e.key == some e.id
set_option maxRecDepth 8000 in
set_option maxHeartbeats 4000000 in
theorem all_ac (l : List (List EntD)) (e : EntD) : AC Try.prog 39 [states l, ent e] (B (allOf l e)) := by
  refine AC.of_body Try.func39 rfl rfl Try.ntmps39 (congrArg Array.toList Try.results39) (by simp) (pures2 (pure_states _) (pure_ent _)) (pure_B _) fun w S' => AWp.bound 0 rfl fun hlen => AWp.of_vc [] ?_
  rw [states_len] at hlen
  simp [go_sem]
  refine AWp.loop_vc [] (fun m s' => ∃ k : Nat, k ≤ l.length ∧ m = l.length - k ∧ s'.σ 3 = .eptr (enc e) 0 ∧ s'.σ 9 = states l ∧ s'.σ 10 = I l.length ∧ s'.σ 11 = I k ∧ ∀ (j : Nat) s, j < k → l[j]? = some s → getOf s e.kind e.key = some e.id) l.length ⟨0, by simp [go_sem]⟩ ?_
  rintro m s' ⟨k, hk, rfl, h3, h9, h10, h11, hyes⟩
  by_cases hlt : k < l.length
  · have bad : getOf l[k] e.kind e.key ≠ some e.id → allOf l e = false := fun h => all_false hlt (by simpa using h)
    simp [go_sem, h3, h9, h10, h11, hlt]
    refine CallSem.pure (get_ac l[k] e.kind e.key) (by simp [go_sem]) ?_
    cases hg : getOf l[k] e.kind e.key with
    | none =>
      simp [go_sem, h3, h9, h10, h11]
      refine PostR.ret ?_
      rw [bad (by rw [hg]; simp)]
      simp [go_sem]
    | some id =>
      by_cases hid : id = e.id
      · simp [go_sem, h3, h9, h10, h11, hid, wrap_succ hlt hlen]
        exact ⟨l.length - (k + 1), by omega, k + 1, by omega, rfl, rfl, below_step hlt hyes (by rw [hg, hid])⟩
      · simp [go_sem, h3, h9, h10, h11, hid]
        refine PostR.ret ?_
        rw [bad (by rw [hg]; simpa using hid)]
        simp [go_sem]
  · have ok : allOf l e = true := all_true fun j s hj => by simpa using hyes j s (by have := (List.getElem?_eq_some_iff.1 hj).1; omega) hj
    simp [go_sem, h3, h9, h10, h11, hlt]
    refine PostR.ret ?_
    simp [go_sem, ok]
set_option maxRecDepth 8000 in
set_option maxHeartbeats 4000000 in
theorem rall_ac (l : List (List EntD)) (e : EntD) : AC Try.prog 41 [states l, ent e] (B (rallOf l e)) := by
  refine AC.of_body Try.func41 rfl rfl Try.ntmps41 (congrArg Array.toList Try.results41) (by simp) (pures2 (pure_states _) (pure_ent _)) (pure_B _) fun w S' => AWp.bound 0 rfl fun hlen => AWp.of_vc [] ?_
  rw [states_len] at hlen
  simp [go_sem]
  refine AWp.loop_vc [] (fun m s' => ∃ k : Nat, k ≤ l.length ∧ m = l.length - k ∧ s'.σ 0 = states l ∧ s'.σ 3 = .eptr (enc e) 0 ∧ s'.σ 5 = I k ∧ ∀ (j : Nat) s, j < k → l[j]? = some s → rgetOf s e.kind e.key = some e.id) l.length ⟨0, by simp [go_sem]⟩ ?_
  rintro m s' ⟨k, hk, rfl, h0, h3, h5, hyes⟩
  by_cases hlt : k < l.length
  · have bad : rgetOf l[k] e.kind e.key ≠ some e.id → rallOf l e = false := fun h => all_false hlt (by simpa using h)
    simp [go_sem, h0, h3, h5, hlt]
    refine AWp.drawAll rfl (by kernel_rfl) ?_
    simp [go_sem, h0, h3, h5, hlt]
    refine CalmThen.pure (rget_ac l[k] e.kind e.key) rfl ?_
    cases hg : rgetOf l[k] e.kind e.key with
    | none =>
      simp [go_sem, h0, h3, h5]
      refine PostR.ret ?_
      rw [bad (by rw [hg]; simp)]
      simp [go_sem]
    | some id =>
      by_cases hid : id = e.id
      · simp [go_sem, h0, h3, h5, hid, wrap_succ hlt hlen]
        exact ⟨l.length - (k + 1), by omega, k + 1, by omega, rfl, rfl, below_step hlt hyes (by rw [hg, hid])⟩
      · simp [go_sem, h0, h3, h5, hid]
        refine PostR.ret ?_
        rw [bad (by rw [hg]; simpa using hid)]
        simp [go_sem]
  · have ok : rallOf l e = true := all_true fun j s hj => by simpa using hyes j s (by have := (List.getElem?_eq_some_iff.1 hj).1; omega) hj
    simp [go_sem, h0, h3, h5, hlt]
    refine PostR.ret ?_
    simp [go_sem, ok]
def rdiffOf (a b : List EntD) : List EntD := b.filter fun e => rgetOf a e.kind e.key != some e.id
set_option maxRecDepth 8000 in
set_option maxHeartbeats 4000000 in
theorem rdiff_ac (a b : List EntD) (hb : b.length ≤ 100000) : AC Try.prog 27 [ents a, ents b] (ents (rdiffOf a b)) := by
  refine AC.of_body Try.func27 rfl rfl Try.ntmps27 (congrArg Array.toList Try.results27) (by simp) (pures2 (pure_ents _) (pure_ents _)) (pureR_ents _) fun w S' => AWp.of_vc [9] ?_
  have hm : b.length ≤ maxLen := by unfold maxLen; omega
  simp [go_sem]
  refine AWp.loop_vc [9] (fun m s => ∃ k v : Nat, k ≤ b.length ∧ m = b.length - k ∧ s.σ 0 = ents a ∧ s.σ 1 = ents b ∧ s.σ 6 = I k ∧ s.σ 5 = .ref 9 v ∧ s.ver 9 = v ∧ s.h 9 = .arr 30 3 ((rdiffOf a (b.take k)).map ent)) b.length ⟨0, 1, by simp [go_sem, rdiffOf]⟩ ?_
  rintro m s ⟨k, v, hk, rfl, h0, h1, h6, h5, hv, hh⟩
  by_cases hlt : k < b.length
  · have hl : (rdiffOf a (b.take k)).length ≤ k := by
      have := List.length_filter_le (fun e : EntD => rgetOf a e.kind e.key != some e.id) (b.take k)
      simp only [rdiffOf, List.length_take] at *; omega
    have hstep : rdiffOf a (b.take (k + 1)) = if rgetOf a b[k].kind b[k].key = some b[k].id then rdiffOf a (b.take k) else rdiffOf a (b.take k) ++ [b[k]] := by
      unfold rdiffOf
      rw [filter_take _ _ _ hlt]
      by_cases hg : rgetOf a b[k].kind b[k].key = some b[k].id
      · simp [hg]
      · simp [hg]
    simp [go_sem, h0, h1, h5, h6, hlt]
    refine AWp.drawAll rfl (by kernel_rfl) ?_
    simp [go_sem, h0, h1, h5, h6, hlt]
    refine CalmThen.pure (rget_ac a b[k].kind b[k].key) rfl ?_
    cases hg : rgetOf a b[k].kind b[k].key with
    | none =>
      rw [hg] at hstep
      simp at hstep
      simp [go_sem, h0, h1, h5, h6, hv, hh, hlt, wrap_succ hlt hm]
      exact ⟨⟨by omega, by omega⟩, b.length - (k + 1), by omega, k + 1, by omega, rfl, rfl, by rw [hstep]; simp [go_sem]⟩
    | some id =>
      rw [hg] at hstep
      by_cases hid : id = b[k].id
      · simp [hid] at hstep
        simp [go_sem, h0, h1, h5, h6, hv, hh, hlt, hid, wrap_succ hlt hm]
        exact ⟨b.length - (k + 1), by omega, k + 1, by omega, rfl, rfl, by rw [hstep]⟩
      · simp [hid] at hstep
        simp [go_sem, h0, h1, h5, h6, hv, hh, hlt, hid, wrap_succ hlt hm]
        exact ⟨⟨by omega, by omega⟩, b.length - (k + 1), by omega, k + 1, by omega, rfl, rfl, by rw [hstep]; simp [go_sem]⟩
  · simp [go_sem, h0, h1, h5, h6, hlt]
    refine PostR.retW [9] ?_ (.refl _)
    rw [List.take_of_length_le (by omega)] at hh
    simp [go_sem, h5, hv, hh]
end Go.Proofs.Ytlhaopapeggefaa
