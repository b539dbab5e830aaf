/- Contracts of the reference's looks at the size of events. No condition. -/
import Derived.Test.YthlcncofhnkohaaE2
namespace Go.Proofs.Ythlcncofhnkohaa
open Go Go.Abs
set_option linter.unusedSimpArgs false
theorem wrap_natE {k : Nat} (hm : k ≤ maxLen) : IntKind.i64.wrap (k : Int) = (k : Int) := wrap_i64 (by omega) (by unfold maxLen at hm; omega)
/-- Is an event of moderate size? -/
structure Mod (e : Evt) : Prop where
  a0 : e.prev.length ≤ 40
  a1 : e.auth.length ≤ 40
  a2 : e.content.allow.length ≤ 40
  a3 : e.content.deny.length ≤ 40
  a4 : e.content.levels.users.length ≤ 40
  a5 : e.content.levels.kinds.length ≤ 40
  b0 : e.room.length ≤ 2000
  b1 : e.sender.length ≤ 2000
  b2 : e.key.length ≤ 2000
  b3 : e.content.text.length ≤ 2000
  b4 : e.content.via.length ≤ 2000
  b5 : e.sig.server.length ≤ 2000
  allow : ∀ t ∈ e.content.allow, t.length ≤ 2000
  deny : ∀ t ∈ e.content.deny, t.length ≤ 2000
  users : ∀ t ∈ e.content.levels.users, t.user.length ≤ 2000
open Classical in
noncomputable def longOf (e : Evt) : Bool := decide (¬ Mod e)
open Classical in
theorem longOf_bad {e : Evt} (h : Mod e → False) : longOf e = true := by unfold longOf; exact decide_eq_true h
open Classical in
theorem longOf_good {e : Evt} (h : Mod e) : longOf e = false := by unfold longOf; exact decide_eq_false fun hn => hn h
theorem longOf_iff {e : Evt} : longOf e = false ↔ Mod e := ⟨fun h => Classical.byContradiction fun hn => (by rw [longOf_bad hn] at h; cases h), longOf_good⟩
theorem mem_below {α : Type} {l : List α} {P : α → Prop} (h : ∀ (j : Nat) x, j < l.length → l[j]? = some x → P x) : ∀ x ∈ l, P x := by
  intro x hx
  obtain ⟨j, hj, rfl⟩ := List.mem_iff_getElem.1 hx
  exact h j _ hj (List.getElem?_eq_getElem hj)
theorem below_step' {α : Type} {l : List α} {P : α → Prop} {k : Nat} (hk : k < l.length) (h : ∀ (j : Nat) x, j < k → l[j]? = some x → P x) (hp : P l[k]) : ∀ (j : Nat) x, j < k + 1 → l[j]? = some x → P x := by
  intro j x hj hx
  rcases Nat.lt_succ_iff_lt_or_eq.1 hj with hj | rfl
  · exact h j x hj hx
  · rw [List.getElem?_eq_getElem hk] at hx; cases hx; exact hp
set_option maxRecDepth 8000 in
set_option maxHeartbeats 4000000 in
theorem long_ac (e : Evt) : AC Try.prog 35 [ev e] (B (longOf e)) := by
  refine AC.of_body Try.func35 rfl rfl Try.ntmps35 (congrArg Array.toList Try.results35) (by simp) (pures1 (pure_ev _)) (pure_B _) fun w S' => AWp.of_vc [] ?_
  by_cases g0 : (40 : Int) < e.prev.length
  · have hb : longOf e = true := longOf_bad fun m => by have := m.a0; omega
    simp [go_sem, g0, hb]
    refine PostR.ret ?_
    simp [go_sem]
  by_cases g1 : (40 : Int) < e.auth.length
  · have hb : longOf e = true := longOf_bad fun m => by have := m.a1; omega
    simp [go_sem, g0, g1, hb]
    refine PostR.ret ?_
    simp [go_sem]
  by_cases g2 : (40 : Int) < e.content.allow.length
  · have hb : longOf e = true := longOf_bad fun m => by have := m.a2; omega
    simp [go_sem, g0, g1, g2, hb]
    refine PostR.ret ?_
    simp [go_sem]
  by_cases g3 : (40 : Int) < e.content.deny.length
  · have hb : longOf e = true := longOf_bad fun m => by have := m.a3; omega
    simp [go_sem, g0, g1, g2, g3, hb]
    refine PostR.ret ?_
    simp [go_sem]
  by_cases g4 : (40 : Int) < e.content.levels.users.length
  · have hb : longOf e = true := longOf_bad fun m => by have := m.a4; omega
    simp [go_sem, g0, g1, g2, g3, g4, hb]
    refine PostR.ret ?_
    simp [go_sem]
  by_cases g5 : (40 : Int) < e.content.levels.kinds.length
  · have hb : longOf e = true := longOf_bad fun m => by have := m.a5; omega
    simp [go_sem, g0, g1, g2, g3, g4, g5, hb]
    refine PostR.ret ?_
    simp [go_sem]
  by_cases t0 : (2000 : Int) < e.room.length
  · have hb : longOf e = true := longOf_bad fun m => by have := m.b0; omega
    simp [go_sem, g0, g1, g2, g3, g4, g5, t0, hb]
    refine PostR.ret ?_
    simp [go_sem]
  by_cases t1 : (2000 : Int) < e.sender.length
  · have hb : longOf e = true := longOf_bad fun m => by have := m.b1; omega
    simp [go_sem, g0, g1, g2, g3, g4, g5, t0, t1, hb]
    refine PostR.ret ?_
    simp [go_sem]
  by_cases t2 : (2000 : Int) < e.key.length
  · have hb : longOf e = true := longOf_bad fun m => by have := m.b2; omega
    simp [go_sem, g0, g1, g2, g3, g4, g5, t0, t1, t2, hb]
    refine PostR.ret ?_
    simp [go_sem]
  by_cases t3 : (2000 : Int) < e.content.text.length
  · have hb : longOf e = true := longOf_bad fun m => by have := m.b3; omega
    simp [go_sem, g0, g1, g2, g3, g4, g5, t0, t1, t2, t3, hb]
    refine PostR.ret ?_
    simp [go_sem]
  by_cases t4 : (2000 : Int) < e.content.via.length
  · have hb : longOf e = true := longOf_bad fun m => by have := m.b4; omega
    simp [go_sem, g0, g1, g2, g3, g4, g5, t0, t1, t2, t3, t4, hb]
    refine PostR.ret ?_
    simp [go_sem]
  by_cases t5 : (2000 : Int) < e.sig.server.length
  · have hb : longOf e = true := longOf_bad fun m => by have := m.b5; omega
    simp [go_sem, g0, g1, g2, g3, g4, g5, t0, t1, t2, t3, t4, t5, hb]
    refine PostR.ret ?_
    simp [go_sem]
  simp [go_sem, g0, g1, g2, g3, g4, g5, t0, t1, t2, t3, t4, t5]
  refine AWp.loop_vc [] (fun m s => ∃ k : Nat, k ≤ e.content.allow.length ∧ m = e.content.allow.length - k ∧ s.σ 3 = .rptr 3 1 0 0 ∧ s.ver 3 = 1 ∧ s.h 3 = .box (ctc e.content) ∧ s.σ 4 = I k ∧ ∀ (j : Nat) x, j < k → e.content.allow[j]? = some x → x.length ≤ 2000) e.content.allow.length ⟨0, by simp [go_sem]⟩ ?_
  rintro m s ⟨k, hk, rfl, sk, vk, bk, ik, yk⟩
  by_cases lk : k < e.content.allow.length
  · by_cases pk : (2000 : Int) < e.content.allow[k].length
    · have hb : longOf e = true := longOf_bad fun m => by have := m.allow _ (List.getElem_mem lk); omega
      simp [go_sem, sk, vk, bk, ik, lk, pk, hb]
      refine PostR.ret ?_
      simp [go_sem]
    · simp [go_sem, sk, vk, bk, ik, lk, pk, wrap_succ lk (show e.content.allow.length ≤ maxLen by unfold maxLen; omega)]
      exact ⟨e.content.allow.length - (k + 1), by omega, k + 1, by omega, rfl, rfl, below_step' lk yk (by omega)⟩
  have yk' : ∀ x ∈ e.content.allow, x.length ≤ 2000 := mem_below fun j x hj hx => yk j x (by omega) hx
  simp [go_sem, sk, vk, bk, ik, lk]
  refine AWp.loop_vc [] (fun m s => ∃ q : Nat, q ≤ e.content.deny.length ∧ m = e.content.deny.length - q ∧ s.σ 3 = .rptr 3 1 0 0 ∧ s.ver 3 = 1 ∧ s.h 3 = .box (ctc e.content) ∧ s.σ 5 = I q ∧ ∀ (j : Nat) x, j < q → e.content.deny[j]? = some x → x.length ≤ 2000) e.content.deny.length ⟨0, by simp [go_sem, sk, vk, bk]⟩ ?_
  rintro m s ⟨q, hq, rfl, sq, vq, bq, iq, yq⟩
  by_cases lq : q < e.content.deny.length
  · by_cases pq : (2000 : Int) < e.content.deny[q].length
    · have hb : longOf e = true := longOf_bad fun m => by have := m.deny _ (List.getElem_mem lq); omega
      simp [go_sem, sq, vq, bq, iq, lq, pq, hb]
      refine PostR.ret ?_
      simp [go_sem]
    · simp [go_sem, sq, vq, bq, iq, lq, pq, wrap_succ lq (show e.content.deny.length ≤ maxLen by unfold maxLen; omega)]
      exact ⟨e.content.deny.length - (q + 1), by omega, q + 1, by omega, rfl, rfl, below_step' lq yq (by omega)⟩
  have yq' : ∀ x ∈ e.content.deny, x.length ≤ 2000 := mem_below fun j x hj hx => yq j x (by omega) hx
  simp [go_sem, sq, vq, bq, iq, lq]
  refine AWp.loop_vc [] (fun m s => ∃ r : Nat, r ≤ e.content.levels.users.length ∧ m = e.content.levels.users.length - r ∧ s.σ 3 = .rptr 3 1 0 0 ∧ s.ver 3 = 1 ∧ s.h 3 = .box (ctc e.content) ∧ s.σ 6 = I r ∧ ∀ (j : Nat) x, j < r → e.content.levels.users[j]? = some x → x.user.length ≤ 2000) e.content.levels.users.length ⟨0, by simp [go_sem, sq, vq, bq]⟩ ?_
  rintro m s ⟨r, hr, rfl, sr, vr, br, ir, yr⟩
  by_cases lr : r < e.content.levels.users.length
  · by_cases pr : (2000 : Int) < e.content.levels.users[r].user.length
    · have hb : longOf e = true := longOf_bad fun m => by have := m.users _ (List.getElem_mem lr); omega
      simp [go_sem, sr, vr, br, ir, lr, pr, hb]
      refine PostR.ret ?_
      simp [go_sem]
    · simp [go_sem, sr, vr, br, ir, lr, pr, wrap_succ lr (show e.content.levels.users.length ≤ maxLen by unfold maxLen; omega)]
      exact ⟨e.content.levels.users.length - (r + 1), by omega, r + 1, by omega, rfl, rfl, below_step' lr yr (by omega)⟩
  have yr' : ∀ x ∈ e.content.levels.users, x.user.length ≤ 2000 := mem_below fun j x hj hx => yr j x (by omega) hx
  simp [go_sem, sr, vr, br, ir, lr]
  have hb : longOf e = false := longOf_good ⟨by omega, by omega, by omega, by omega, by omega, by omega, by omega, by omega, by omega, by omega, by omega, by omega, yk', yq', yr'⟩
  refine PostR.ret ?_
  simp [go_sem, hb]
open Classical in
noncomputable def greatOf (l : List Evt) (n : Nat) : Bool := decide (¬ (l.length ≤ n ∧ ∀ e ∈ l, Mod e))
open Classical in

theorem greatOf_iff {l : List Evt} {n : Nat} : greatOf l n = false ↔ l.length ≤ n ∧ ∀ e ∈ l, Mod e := by
  unfold greatOf
  constructor
  · intro h; exact Classical.byContradiction fun hn => by rw [decide_eq_true hn] at h; cases h
  · intro h; exact decide_eq_false fun hn => hn h
set_option maxRecDepth 8000 in
set_option maxHeartbeats 4000000 in
theorem great_ac (l : List Evt) : AC Try.prog 11 [evs l, I 14] (B (greatOf l 14)) := by
  refine AC.of_body Try.func11 rfl rfl Try.ntmps11 (congrArg Array.toList Try.results11) (by simp) (pures2 (pure_evs _) (pure_I _)) (pure_B _) fun w S' => AWp.of_vc [] ?_
  by_cases g : (14 : Int) < l.length
  · have hb : greatOf l 14 = true := by
      cases h : greatOf l 14 with
      | true => rfl
      | false => have := (greatOf_iff.1 h).1; omega
    simp [go_sem, g, hb]
    refine PostR.ret ?_
    simp [go_sem]
  simp [go_sem, g]
  refine AWp.loop_vc [] (fun m s => ∃ k : Nat, k ≤ l.length ∧ m = l.length - k ∧ s.σ 0 = evs l ∧ s.σ 5 = I k ∧ ∀ (j : Nat) x, j < k → l[j]? = some x → Mod x) l.length ⟨0, by simp [go_sem]⟩ ?_
  rintro m s ⟨k, hk, rfl, h0, h5, hyes⟩
  by_cases hlt : k < l.length
  · simp [go_sem, h0, h5, hlt]
    refine CallSem.pure (long_ac l[k]) (by simp [go_sem]) ?_
    cases hL : longOf l[k] with
    | true =>
      have hb : greatOf l 14 = true := by
        cases h : greatOf l 14 with
        | true => rfl
        | false => have := (greatOf_iff.1 h).2 _ (List.getElem_mem hlt); rw [longOf_good this] at hL; cases hL
      simp [go_sem]
      refine PostR.ret ?_
      simp [go_sem, hb]
    | false =>
      simp [go_sem, h0, h5, hlt, wrap_succ hlt (show l.length ≤ maxLen by unfold maxLen; omega)]
      exact ⟨l.length - (k + 1), by omega, k + 1, by omega, rfl, rfl, below_step' hlt hyes (longOf_iff.1 hL)⟩
  · have hb : greatOf l 14 = false := greatOf_iff.2 ⟨by omega, mem_below fun j x hj hx => hyes j x (by omega) hx⟩
    simp [go_sem, h0, h5, hlt]
    refine PostR.ret ?_
    simp [go_sem, hb]

end Go.Proofs.Ythlcncofhnkohaa
