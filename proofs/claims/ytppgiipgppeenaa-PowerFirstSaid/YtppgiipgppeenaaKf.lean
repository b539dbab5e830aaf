/- Several texts of the proof in one: A0, A1, A2, A3, A4, A5, A6, A7, A8. No condition. -/
import Derived.Test.YtppgiipgppeenaaKe
set_option linter.unusedSimpArgs false
set_option linter.unusedVariables false
-- part A0
namespace Go.Proofs.Ytppgiipgppeenaa
open Go Go.Abs
set_option linter.unusedSimpArgs false
theorem wrap_natE {k : Nat} (hm : k ≤ maxLen) : IntKind.i64.wrap (k : Int) = (k : Int) := wrap_i64 (by omega) (by unfold maxLen at hm; omega)
/-- Is an event of moderate size? -/
structure Mod (e : Evt) : Prop where
  a0 : e.prev.length ≤ 40
  a1 : e.auth.length ≤ 40
  a2 : e.content.allow.length ≤ 40
  a3 : e.content.deny.length ≤ 40
  a4 : e.content.levels.users.length ≤ 40
  a5 : e.content.levels.kinds.length ≤ 40
  b0 : e.room.length ≤ 2000
  b1 : e.sender.length ≤ 2000
  b2 : e.key.length ≤ 2000
  b3 : e.content.text.length ≤ 2000
  b4 : e.content.via.length ≤ 2000
  b5 : e.sig.server.length ≤ 2000
  allow : ∀ t ∈ e.content.allow, t.length ≤ 2000
  deny : ∀ t ∈ e.content.deny, t.length ≤ 2000
  users : ∀ t ∈ e.content.levels.users, t.user.length ≤ 2000
open Classical in
noncomputable def longOf (e : Evt) : Bool := decide (¬ Mod e)
open Classical in
theorem longOf_bad {e : Evt} (h : Mod e → False) : longOf e = true := by unfold longOf; exact decide_eq_true h
open Classical in
theorem longOf_good {e : Evt} (h : Mod e) : longOf e = false := by unfold longOf; exact decide_eq_false fun hn => hn h
theorem longOf_iff {e : Evt} : longOf e = false ↔ Mod e := ⟨fun h => Classical.byContradiction fun hn => (by rw [longOf_bad hn] at h; cases h), longOf_good⟩
theorem mem_below {α : Type} {l : List α} {P : α → Prop} (h : ∀ (j : Nat) x, j < l.length → l[j]? = some x → P x) : ∀ x ∈ l, P x := by
  intro x hx
  obtain ⟨j, hj, rfl⟩ := List.mem_iff_getElem.1 hx
  exact h j _ hj (List.getElem?_eq_getElem hj)
theorem below_step' {α : Type} {l : List α} {P : α → Prop} {k : Nat} (hk : k < l.length) (h : ∀ (j : Nat) x, j < k → l[j]? = some x → P x) (hp : P l[k]) : ∀ (j : Nat) x, j < k + 1 → l[j]? = some x → P x := by
  intro j x hj hx
  rcases Nat.lt_succ_iff_lt_or_eq.1 hj with hj | rfl
  · exact h j x hj hx
  · rw [List.getElem?_eq_getElem hk] at hx; cases hx; exact hp
set_option maxRecDepth 8000 in
set_option maxHeartbeats 4000000 in
theorem long_ac (e : Evt) : AC Try.prog 11 [ev e] (B (longOf e)) := by
  refine AC.of_body Try.func11 rfl rfl Try.ntmps11 (congrArg Array.toList Try.results11) (by simp) (pures1 (pure_ev _)) (pure_B _) fun w S' => AWp.of_vc [] ?_
  by_cases g0 : (40 : Int) < e.prev.length
  · have hb : longOf e = true := longOf_bad fun m => by have := m.a0; omega
    simp [go_sem, g0, hb]
    refine PostR.ret ?_
    simp [go_sem]
  by_cases g1 : (40 : Int) < e.auth.length
  · have hb : longOf e = true := longOf_bad fun m => by have := m.a1; omega
    simp [go_sem, g0, g1, hb]
    refine PostR.ret ?_
    simp [go_sem]
  by_cases g2 : (40 : Int) < e.content.allow.length
  · have hb : longOf e = true := longOf_bad fun m => by have := m.a2; omega
    simp [go_sem, g0, g1, g2, hb]
    refine PostR.ret ?_
    simp [go_sem]
  by_cases g3 : (40 : Int) < e.content.deny.length
  · have hb : longOf e = true := longOf_bad fun m => by have := m.a3; omega
    simp [go_sem, g0, g1, g2, g3, hb]
    refine PostR.ret ?_
    simp [go_sem]
  by_cases g4 : (40 : Int) < e.content.levels.users.length
  · have hb : longOf e = true := longOf_bad fun m => by have := m.a4; omega
    simp [go_sem, g0, g1, g2, g3, g4, hb]
    refine PostR.ret ?_
    simp [go_sem]
  by_cases g5 : (40 : Int) < e.content.levels.kinds.length
  · have hb : longOf e = true := longOf_bad fun m => by have := m.a5; omega
    simp [go_sem, g0, g1, g2, g3, g4, g5, hb]
    refine PostR.ret ?_
    simp [go_sem]
  by_cases t0 : (2000 : Int) < e.room.length
  · have hb : longOf e = true := longOf_bad fun m => by have := m.b0; omega
    simp [go_sem, g0, g1, g2, g3, g4, g5, t0, hb]
    refine PostR.ret ?_
    simp [go_sem]
  by_cases t1 : (2000 : Int) < e.sender.length
  · have hb : longOf e = true := longOf_bad fun m => by have := m.b1; omega
    simp [go_sem, g0, g1, g2, g3, g4, g5, t0, t1, hb]
    refine PostR.ret ?_
    simp [go_sem]
  by_cases t2 : (2000 : Int) < e.key.length
  · have hb : longOf e = true := longOf_bad fun m => by have := m.b2; omega
    simp [go_sem, g0, g1, g2, g3, g4, g5, t0, t1, t2, hb]
    refine PostR.ret ?_
    simp [go_sem]
  by_cases t3 : (2000 : Int) < e.content.text.length
  · have hb : longOf e = true := longOf_bad fun m => by have := m.b3; omega
    simp [go_sem, g0, g1, g2, g3, g4, g5, t0, t1, t2, t3, hb]
    refine PostR.ret ?_
    simp [go_sem]
  by_cases t4 : (2000 : Int) < e.content.via.length
  · have hb : longOf e = true := longOf_bad fun m => by have := m.b4; omega
    simp [go_sem, g0, g1, g2, g3, g4, g5, t0, t1, t2, t3, t4, hb]
    refine PostR.ret ?_
    simp [go_sem]
  by_cases t5 : (2000 : Int) < e.sig.server.length
  · have hb : longOf e = true := longOf_bad fun m => by have := m.b5; omega
    simp [go_sem, g0, g1, g2, g3, g4, g5, t0, t1, t2, t3, t4, t5, hb]
    refine PostR.ret ?_
    simp [go_sem]
  simp [go_sem, g0, g1, g2, g3, g4, g5, t0, t1, t2, t3, t4, t5]
  refine AWp.loop_vc [] (fun m s => ∃ k : Nat, k ≤ e.content.allow.length ∧ m = e.content.allow.length - k ∧ s.σ 3 = .rptr 3 1 0 0 ∧ s.ver 3 = 1 ∧ s.h 3 = .box (ctc e.content) ∧ s.σ 4 = I k ∧ ∀ (j : Nat) x, j < k → e.content.allow[j]? = some x → x.length ≤ 2000) e.content.allow.length ⟨0, by simp [go_sem]⟩ ?_
  rintro m s ⟨k, hk, rfl, sk, vk, bk, ik, yk⟩
  by_cases lk : k < e.content.allow.length
  · by_cases pk : (2000 : Int) < e.content.allow[k].length
    · have hb : longOf e = true := longOf_bad fun m => by have := m.allow _ (List.getElem_mem lk); omega
      simp [go_sem, sk, vk, bk, ik, lk, pk, hb]
      refine PostR.ret ?_
      simp [go_sem]
    · simp [go_sem, sk, vk, bk, ik, lk, pk, wrap_succ lk (show e.content.allow.length ≤ maxLen by unfold maxLen; omega)]
      exact ⟨e.content.allow.length - (k + 1), by omega, k + 1, by omega, rfl, rfl, below_step' lk yk (by omega)⟩
  have yk' : ∀ x ∈ e.content.allow, x.length ≤ 2000 := mem_below fun j x hj hx => yk j x (by omega) hx
  simp [go_sem, sk, vk, bk, ik, lk]
  refine AWp.loop_vc [] (fun m s => ∃ q : Nat, q ≤ e.content.deny.length ∧ m = e.content.deny.length - q ∧ s.σ 3 = .rptr 3 1 0 0 ∧ s.ver 3 = 1 ∧ s.h 3 = .box (ctc e.content) ∧ s.σ 5 = I q ∧ ∀ (j : Nat) x, j < q → e.content.deny[j]? = some x → x.length ≤ 2000) e.content.deny.length ⟨0, by simp [go_sem, sk, vk, bk]⟩ ?_
  rintro m s ⟨q, hq, rfl, sq, vq, bq, iq, yq⟩
  by_cases lq : q < e.content.deny.length
  · by_cases pq : (2000 : Int) < e.content.deny[q].length
    · have hb : longOf e = true := longOf_bad fun m => by have := m.deny _ (List.getElem_mem lq); omega
      simp [go_sem, sq, vq, bq, iq, lq, pq, hb]
      refine PostR.ret ?_
      simp [go_sem]
    · simp [go_sem, sq, vq, bq, iq, lq, pq, wrap_succ lq (show e.content.deny.length ≤ maxLen by unfold maxLen; omega)]
      exact ⟨e.content.deny.length - (q + 1), by omega, q + 1, by omega, rfl, rfl, below_step' lq yq (by omega)⟩
  have yq' : ∀ x ∈ e.content.deny, x.length ≤ 2000 := mem_below fun j x hj hx => yq j x (by omega) hx
  simp [go_sem, sq, vq, bq, iq, lq]
  refine AWp.loop_vc [] (fun m s => ∃ r : Nat, r ≤ e.content.levels.users.length ∧ m = e.content.levels.users.length - r ∧ s.σ 3 = .rptr 3 1 0 0 ∧ s.ver 3 = 1 ∧ s.h 3 = .box (ctc e.content) ∧ s.σ 6 = I r ∧ ∀ (j : Nat) x, j < r → e.content.levels.users[j]? = some x → x.user.length ≤ 2000) e.content.levels.users.length ⟨0, by simp [go_sem, sq, vq, bq]⟩ ?_
  rintro m s ⟨r, hr, rfl, sr, vr, br, ir, yr⟩
  by_cases lr : r < e.content.levels.users.length
  · by_cases pr : (2000 : Int) < e.content.levels.users[r].user.length
    · have hb : longOf e = true := longOf_bad fun m => by have := m.users _ (List.getElem_mem lr); omega
      simp [go_sem, sr, vr, br, ir, lr, pr, hb]
      refine PostR.ret ?_
      simp [go_sem]
    · simp [go_sem, sr, vr, br, ir, lr, pr, wrap_succ lr (show e.content.levels.users.length ≤ maxLen by unfold maxLen; omega)]
      exact ⟨e.content.levels.users.length - (r + 1), by omega, r + 1, by omega, rfl, rfl, below_step' lr yr (by omega)⟩
  have yr' : ∀ x ∈ e.content.levels.users, x.user.length ≤ 2000 := mem_below fun j x hj hx => yr j x (by omega) hx
  simp [go_sem, sr, vr, br, ir, lr]
  have hb : longOf e = false := longOf_good ⟨by omega, by omega, by omega, by omega, by omega, by omega, by omega, by omega, by omega, by omega, by omega, by omega, yk', yq', yr'⟩
  refine PostR.ret ?_
  simp [go_sem, hb]
open Classical in
noncomputable def greatOf (l : List Evt) (n : Nat) : Bool := decide (¬ (l.length ≤ n ∧ ∀ e ∈ l, Mod e))
open Classical in

theorem greatOf_iff {l : List Evt} {n : Nat} : greatOf l n = false ↔ l.length ≤ n ∧ ∀ e ∈ l, Mod e := by
  unfold greatOf
  constructor
  · intro h; exact Classical.byContradiction fun hn => by rw [decide_eq_true hn] at h; cases h
  · intro h; exact decide_eq_false fun hn => hn h
set_option maxRecDepth 8000 in
set_option maxHeartbeats 4000000 in
theorem great_ac (l : List Evt) : AC Try.prog 10 [evs l, I 14] (B (greatOf l 14)) := by
  refine AC.of_body Try.func10 rfl rfl Try.ntmps10 (congrArg Array.toList Try.results10) (by simp) (pures2 (pure_evs _) (pure_I _)) (pure_B _) fun w S' => AWp.of_vc [] ?_
  by_cases g : (14 : Int) < l.length
  · have hb : greatOf l 14 = true := by
      cases h : greatOf l 14 with
      | true => rfl
      | false => have := (greatOf_iff.1 h).1; omega
    simp [go_sem, g, hb]
    refine PostR.ret ?_
    simp [go_sem]
  simp [go_sem, g]
  refine AWp.loop_vc [] (fun m s => ∃ k : Nat, k ≤ l.length ∧ m = l.length - k ∧ s.σ 0 = evs l ∧ s.σ 5 = I k ∧ ∀ (j : Nat) x, j < k → l[j]? = some x → Mod x) l.length ⟨0, by simp [go_sem]⟩ ?_
  rintro m s ⟨k, hk, rfl, h0, h5, hyes⟩
  by_cases hlt : k < l.length
  · simp [go_sem, h0, h5, hlt]
    refine CallSem.pure (long_ac l[k]) (by simp [go_sem]) ?_
    cases hL : longOf l[k] with
    | true =>
      have hb : greatOf l 14 = true := by
        cases h : greatOf l 14 with
        | true => rfl
        | false => have := (greatOf_iff.1 h).2 _ (List.getElem_mem hlt); rw [longOf_good this] at hL; cases hL
      simp [go_sem]
      refine PostR.ret ?_
      simp [go_sem, hb]
    | false =>
      simp [go_sem, h0, h5, hlt, wrap_succ hlt (show l.length ≤ maxLen by unfold maxLen; omega)]
      exact ⟨l.length - (k + 1), by omega, k + 1, by omega, rfl, rfl, below_step' hlt hyes (longOf_iff.1 hL)⟩
  · have hb : greatOf l 14 = false := greatOf_iff.2 ⟨by omega, mem_below fun j x hj hx => hyes j x (by omega) hx⟩
    simp [go_sem, h0, h5, hlt]
    refine PostR.ret ?_
    simp [go_sem, hb]

end Go.Proofs.Ytppgiipgppeenaa

-- part A1
namespace Go.Proofs.Ytppgiipgppeenaa
open Go Go.Abs
set_option linter.unusedSimpArgs false
def memOf (n : Int) : Bool := n == 3 || n == 1 || n == 2
def keysOf (e : Evt) : List EntD :=
  if e.kind = 1 then [] else
  if e.kind = 2 then
    (if memOf e.content.n = true then setOf (setOf (setOf (setOf (setOf [] 1 [] 0) 3 [] 0) 2 e.sender 0) 2 e.key 0) 4 [] 0 else setOf (setOf (setOf (setOf [] 1 [] 0) 3 [] 0) 2 e.sender 0) 2 e.key 0)
  else setOf (setOf (setOf [] 1 [] 0) 3 [] 0) 2 e.sender 0
theorem setOf_lenA (s : List EntD) (k : Int) (key : Bytes) (id : Int) : (setOf s k key id).length ≤ s.length + 1 := by
  unfold setOf
  have := fidx_le s ⟨k, key, 0⟩
  rw [List.length_append, List.length_cons, List.length_drop, List.length_take]
  split <;> omega
theorem keysOf_len (e : Evt) : (keysOf e).length ≤ 5 := by
  have h1 := setOf_lenA [] 1 [] 0
  have h2 := setOf_lenA (setOf [] 1 [] 0) 3 [] 0
  have h3 := setOf_lenA (setOf (setOf [] 1 [] 0) 3 [] 0) 2 e.sender 0
  have h4 := setOf_lenA (setOf (setOf (setOf [] 1 [] 0) 3 [] 0) 2 e.sender 0) 2 e.key 0
  have h5 := setOf_lenA (setOf (setOf (setOf (setOf [] 1 [] 0) 3 [] 0) 2 e.sender 0) 2 e.key 0) 4 [] 0
  simp only [List.length_nil] at h1
  unfold keysOf
  split
  · simp
  · split
    · split <;> omega
    · omega
theorem len0 : ([] : List EntD).length ≤ 100000 := by simp
set_option maxRecDepth 8000 in
set_option maxHeartbeats 4000000 in
theorem keys_ac (e : Evt) : AC Try.prog 78 [ev e] (ents (keysOf e)) := by
  refine AC.of_body Try.func78 rfl rfl Try.ntmps78 (congrArg Array.toList Try.results78) (by simp) (pures1 (pure_ev _)) (pureR_ents _) fun w S' => AWp.of_vc [] ?_
  have h1 := setOf_lenA [] 1 [] 0
  have h2 := setOf_lenA (setOf [] 1 [] 0) 3 [] 0
  have h3 := setOf_lenA (setOf (setOf [] 1 [] 0) 3 [] 0) 2 e.sender 0
  have h4 := setOf_lenA (setOf (setOf (setOf [] 1 [] 0) 3 [] 0) 2 e.sender 0) 2 e.key 0
  simp only [List.length_nil] at h1
  by_cases hc : e.kind = 1
  · simp [go_sem, hc]
    refine PostR.retW [] (r0 := .v (.slice none 0 0)) (by simp [go_sem]) ?_
    simp [keysOf, hc]
    exact .nil _
  simp [go_sem, hc]
  refine CallSem.by (set_ac [] 1 [] 0 len0) ⟨.nil _, .refl _, .refl _, .refl _, trivial⟩ (by simp [go_sem]) ?_
  simp [go_sem]
  refine CallSem.pure (set_ac (setOf [] 1 [] 0) 3 [] 0 (by omega)) (by simp [go_sem]) ?_
  simp [go_sem]
  refine CallSem.pure (set_ac (setOf (setOf [] 1 [] 0) 3 [] 0) 2 e.sender 0 (by omega)) (by simp [go_sem]) ?_
  by_cases hm : e.kind = 2
  · simp [go_sem, hm]
    refine CallSem.pure (set_ac (setOf (setOf (setOf [] 1 [] 0) 3 [] 0) 2 e.sender 0) 2 e.key 0 (by omega)) (by simp [go_sem]) ?_
    by_cases n3 : e.content.n = 3
    · simp [go_sem, n3]
      refine CallSem.pure (set_ac (setOf (setOf (setOf (setOf [] 1 [] 0) 3 [] 0) 2 e.sender 0) 2 e.key 0) 4 [] 0 (by omega)) (by simp [go_sem]) ?_
      simp [go_sem]
      refine PostR.ret ?_
      simp [go_sem, keysOf, hm, memOf, n3]
    by_cases n1 : e.content.n = 1
    · simp [go_sem, n1]
      refine CallSem.pure (set_ac (setOf (setOf (setOf (setOf [] 1 [] 0) 3 [] 0) 2 e.sender 0) 2 e.key 0) 4 [] 0 (by omega)) (by simp [go_sem]) ?_
      simp [go_sem]
      refine PostR.ret ?_
      simp [go_sem, keysOf, hm, memOf, n1]
    by_cases n2 : e.content.n = 2
    · simp [go_sem, n2]
      refine CallSem.pure (set_ac (setOf (setOf (setOf (setOf [] 1 [] 0) 3 [] 0) 2 e.sender 0) 2 e.key 0) 4 [] 0 (by omega)) (by simp [go_sem]) ?_
      simp [go_sem]
      refine PostR.ret ?_
      simp [go_sem, keysOf, hm, memOf, n2]
    simp [go_sem, n1, n2, n3]
    refine PostR.ret ?_
    simp [go_sem, keysOf, hm, memOf, n1, n2, n3]
  · simp [go_sem, hm]
    refine PostR.ret ?_
    simp [go_sem, keysOf, hc, hm]

end Go.Proofs.Ytppgiipgppeenaa

-- part A2
namespace Go.Proofs.Ytppgiipgppeenaa
open Go Go.Abs
set_option linter.unusedSimpArgs false
def putOf (s : List EntD) (k : Int) (key : Bytes) : List EntD := if fok s ⟨k, key, 0⟩ = true then s else setOf s k key 0
theorem putOf_eq {s : List EntD} (h : ∀ x ∈ s, x.id = 0) (k : Int) (key : Bytes) : putOf s k key = setOf s k key 0 := by
  unfold putOf
  split
  case isFalse => rfl
  case isTrue hok =>
    have hlt := fok_lt hok
    have he := (fok_iff hlt).1 hok
    have hid := h _ (List.getElem_mem hlt)
    unfold setOf
    rw [if_pos hok]
    have : (⟨k, key, 0⟩ : EntD) = s[fidx s ⟨k, key, 0⟩] := by
      rcases hx : s[fidx s ⟨k, key, 0⟩] with ⟨a, b, c⟩
      rw [hx] at he hid
      simp only at he hid
      simp [he.1, he.2, hid]
    have hd : s.drop (fidx s ⟨k, key, 0⟩) = ⟨k, key, 0⟩ :: s.drop (fidx s ⟨k, key, 0⟩ + 1) := by
      rw [List.drop_eq_getElem_cons hlt]
      exact congrArg (· :: _) this.symm
    rw [← hd, List.take_append_drop]
theorem setOf_ids {s : List EntD} (h : ∀ x ∈ s, x.id = 0) (k : Int) (key : Bytes) : ∀ x ∈ setOf s k key 0, x.id = 0 := by
  intro x hx
  unfold setOf at hx
  rcases List.mem_append.1 hx with hx | hx
  · exact h x (List.mem_of_mem_take hx)
  · rcases List.mem_cons.1 hx with rfl | hx
    · rfl
    · exact h x (List.mem_of_mem_drop hx)
theorem keysOf_ids (e : Evt) : ∀ x ∈ keysOf e, x.id = 0 := by
  have h0 : ∀ x ∈ ([] : List EntD), x.id = 0 := by simp
  have h1 := setOf_ids h0 1 []
  have h2 := setOf_ids h1 3 []
  have h3 := setOf_ids h2 2 e.sender
  have h4 := setOf_ids h3 2 e.key
  have h5 := setOf_ids h4 4 []
  unfold keysOf
  split
  · exact h0
  · split
    · split
      · exact h5
      · exact h4
    · exact h3
set_option maxRecDepth 8000 in
set_option maxHeartbeats 4000000 in
theorem rput_ac (s : List EntD) (k : Int) (key : Bytes) (hsz : s.length ≤ 100000) : AC Try.prog 79 [ents s, I k, S key] (ents (putOf s k key)) := by
  refine AC.of_body Try.func79 rfl rfl Try.ntmps79 (congrArg Array.toList Try.results79) (by simp) (pures3 (pure_ents _) (pure_I _) (pure_S _)) (pureR_ents _) fun w S' => AWp.of_vc [65] ?_
  have hm : s.length ≤ maxLen := by unfold maxLen; omega
  simp [go_sem]
  refine AWp.loop_vc [65] (fun m s' => ∃ q : Nat, q ≤ s.length ∧ m = s.length - q ∧ s'.σ 0 = ents s ∧ s'.σ 1 = I k ∧ s'.σ 2 = S key ∧ s'.σ 7 = I q ∧ ∀ (j : Nat) e, j < q → s[j]? = some e → prec e ⟨k, key, 0⟩ = true) s.length ⟨0, by simp [go_sem]⟩ ?_
  rintro m s' ⟨q, hq, rfl, h0, h1, h2, h7, hno⟩
  have fin : (∀ e, s[q]? = some e → prec e ⟨k, key, 0⟩ = false) → fidx s ⟨k, key, 0⟩ = q := fun h => takeWhile_len _ s q hq hno h
  by_cases hlt : q < s.length
  · cases hp : prec s[q] ⟨k, key, 0⟩ with
    | true =>
      have go : q + 1 ≤ s.length ∧ ∀ (j : Nat) e, j < q + 1 → s[j]? = some e → prec e ⟨k, key, 0⟩ = true := ⟨hlt, below_step hlt hno hp⟩
      by_cases hk : s[q].kind < k
      · simp [go_sem, h0, h1, h2, h7, hlt, hk, wrap_succ hlt hm]
        exact ⟨s.length - (q + 1), by omega, q + 1, hlt, rfl, rfl, go.2⟩
      · have hp2 : s[q].kind = k ∧ Op.bytesLess s[q].key key = true := by
          unfold prec at hp
          simp only [hk, decide_false, Bool.false_or, Bool.and_eq_true, decide_eq_true_eq] at hp
          exact hp
        simp [go_sem, h0, h1, h2, h7, hlt, hp2.1, hp2.2, wrap_succ hlt hm]
        exact ⟨s.length - (q + 1), by omega, q + 1, hlt, rfl, rfl, go.2⟩
    | false =>
      have hf : fidx s ⟨k, key, 0⟩ = q := fin fun e he => by rw [List.getElem?_eq_getElem hlt] at he; cases he; exact hp
      have hiff := fok_iff (s := s) (x := ⟨k, key, 0⟩) (by rw [hf]; exact hlt)
      simp only [hf] at hiff
      have hp1 : ¬ s[q].kind < k := by
        intro hk; unfold prec at hp; simp [hk] at hp
      by_cases hk : s[q].kind = k
      · have hp2 : Op.bytesLess s[q].key key = false := by
          unfold prec at hp; simpa [hk] using hp
        by_cases hkey : s[q].key = key
        · have hok := hiff.2 ⟨hk, hkey⟩
          simp [go_sem, h0, h1, h2, h7, hlt, hp1, hk, hkey, bl_irrefl]
          refine PostR.ret ?_
          simp [go_sem, putOf, hok, hkey]
        · have hok : fok s ⟨k, key, 0⟩ = false := by
            cases hh : fok s ⟨k, key, 0⟩ with
            | false => rfl
            | true => exact (hkey (hiff.1 hh).2).elim
          simp [go_sem, h0, h1, h2, h7, hlt, hq, hp1, hk, hkey, hp2]
          refine ⟨⟨by omega, by omega⟩, ⟨by omega, by omega⟩, ⟨by omega, by omega⟩, ?_⟩
          refine PostR.retW [65] ?_ (.refl _)
          simp [go_sem, putOf, setOf, hf, hok, List.map_take, List.map_drop]
          exact List.take_of_length_le (by simp)
      · have hok : fok s ⟨k, key, 0⟩ = false := by
          cases hh : fok s ⟨k, key, 0⟩ with
          | false => rfl
          | true => exact (hk (hiff.1 hh).1).elim
        simp [go_sem, h0, h1, h2, h7, hlt, hq, hp1, hk]
        refine ⟨⟨by omega, by omega⟩, ⟨by omega, by omega⟩, ⟨by omega, by omega⟩, ?_⟩
        refine PostR.retW [65] ?_ (.refl _)
        simp [go_sem, putOf, setOf, hf, hok, List.map_take, List.map_drop]
        exact List.take_of_length_le (by simp)
  · have hf : fidx s ⟨k, key, 0⟩ = q := fin fun e he => by rw [List.getElem?_eq_none (by omega)] at he; cases he
    have hok : fok s ⟨k, key, 0⟩ = false := fok_out (by rw [hf]; exact hlt)
    simp [go_sem, h0, h1, h2, h7, hlt, hq]
    refine ⟨⟨by omega, by omega⟩, ⟨by omega, by omega⟩, ⟨by omega, by omega⟩, ?_⟩
    refine PostR.retW [65] ?_ (.refl _)
    simp [go_sem, putOf, setOf, hf, hok, List.map_take, List.map_drop]
    exact List.take_of_length_le (by simp)

set_option maxRecDepth 8000 in
set_option maxHeartbeats 4000000 in
theorem rkeys_ac (e : Evt) : AC Try.prog 68 [ev e] (ents (keysOf e)) := by
  refine AC.of_body Try.func68 rfl rfl Try.ntmps68 (congrArg Array.toList Try.results68) (by simp) (pures1 (pure_ev _)) (pureR_ents _) fun w S' => AWp.of_vc [] ?_
  have h1 := setOf_lenA [] 1 [] 0
  have h2 := setOf_lenA (setOf [] 1 [] 0) 3 [] 0
  have h3 := setOf_lenA (setOf (setOf [] 1 [] 0) 3 [] 0) 2 e.sender 0
  have h4 := setOf_lenA (setOf (setOf (setOf [] 1 [] 0) 3 [] 0) 2 e.sender 0) 2 e.key 0
  simp only [List.length_nil] at h1
  have z0 : ∀ x ∈ ([] : List EntD), x.id = 0 := by simp
  have z1 := setOf_ids z0 1 []
  have z2 := setOf_ids z1 3 []
  have z3 := setOf_ids z2 2 e.sender
  have z4 := setOf_ids z3 2 e.key
  by_cases hc : e.kind = 1
  · simp [go_sem, hc]
    refine PostR.retW [] (r0 := .v (.slice none 0 0)) (by simp [go_sem]) ?_
    simp [keysOf, hc]
    exact .nil _
  simp [go_sem, hc]
  refine CallSem.by (rput_ac [] 1 [] len0) ⟨.nil _, .refl _, .refl _, trivial⟩ (by simp [go_sem]) ?_
  rw [putOf_eq z0]
  simp [go_sem]
  refine CallSem.pure (rput_ac (setOf [] 1 [] 0) 3 [] (by omega)) (by simp [go_sem]) ?_
  rw [putOf_eq z1]
  simp [go_sem]
  refine CallSem.pure (rput_ac (setOf (setOf [] 1 [] 0) 3 [] 0) 2 e.sender (by omega)) (by simp [go_sem]) ?_
  rw [putOf_eq z2]
  by_cases hm : e.kind = 2
  · simp [go_sem, hm]
    refine CallSem.pure (rput_ac (setOf (setOf (setOf [] 1 [] 0) 3 [] 0) 2 e.sender 0) 2 e.key (by omega)) (by simp [go_sem]) ?_
    rw [putOf_eq z3]
    by_cases n3 : e.content.n = 3
    · simp [go_sem, n3]
      refine CallSem.pure (rput_ac (setOf (setOf (setOf (setOf [] 1 [] 0) 3 [] 0) 2 e.sender 0) 2 e.key 0) 4 [] (by omega)) (by simp [go_sem]) ?_
      rw [putOf_eq z4]
      simp [go_sem]
      refine PostR.ret ?_
      simp [go_sem, keysOf, hm, memOf, n3]
    by_cases n1 : e.content.n = 1
    · simp [go_sem, n1]
      refine CallSem.pure (rput_ac (setOf (setOf (setOf (setOf [] 1 [] 0) 3 [] 0) 2 e.sender 0) 2 e.key 0) 4 [] (by omega)) (by simp [go_sem]) ?_
      rw [putOf_eq z4]
      simp [go_sem]
      refine PostR.ret ?_
      simp [go_sem, keysOf, hm, memOf, n1]
    by_cases n2 : e.content.n = 2
    · simp [go_sem, n2]
      refine CallSem.pure (rput_ac (setOf (setOf (setOf (setOf [] 1 [] 0) 3 [] 0) 2 e.sender 0) 2 e.key 0) 4 [] (by omega)) (by simp [go_sem]) ?_
      rw [putOf_eq z4]
      simp [go_sem]
      refine PostR.ret ?_
      simp [go_sem, keysOf, hm, memOf, n2]
    simp [go_sem, n1, n2, n3]
    refine PostR.ret ?_
    simp [go_sem, keysOf, hm, memOf, n1, n2, n3]
  · simp [go_sem, hm]
    refine PostR.ret ?_
    simp [go_sem, keysOf, hc, hm]

end Go.Proofs.Ytppgiipgppeenaa

-- part A3
namespace Go.Proofs.Ytppgiipgppeenaa
open Go Go.Abs
set_option linter.unusedSimpArgs false
def kenc (k : EntD) : List AV := [I k.kind, S k.key]
def kp (k : EntD) : AV := .agg (kenc k)
def kps (l : List EntD) : AV := .lst 2 (l.map kp)
theorem pure_kenc (d : EntD) : ∀ c ∈ kenc d, Pure c := fun c hc => by
  simp only [kenc, List.mem_cons, List.not_mem_nil, or_false] at hc
  rcases hc with rfl | rfl <;> exact pure_v _
theorem pure_kp (d : EntD) : Pure (kp d) := pure_agg (pure_kenc d)
theorem pure_kps (l : List EntD) : Pure (kps l) := pure_lst fun x hx c hc => by
  obtain ⟨d, _, rfl⟩ := List.mem_map.1 hx
  exact pure_kenc d c hc
theorem okAll_kps (st : St) (l : List EntD) : okAll st (l.map kp) := fun c hc => by obtain ⟨n, _, rfl⟩ := List.mem_map.1 hc; rfl
theorem kps_len (l : List EntD) : (l.map kp).length = l.length := by simp
attribute [go_sem] okAll_kps kenc kp kps
theorem pureR_kps (l : List EntD) : PureR (kps l) := pure_kps l

set_option maxRecDepth 8000 in
set_option maxHeartbeats 4000000 in
theorem in_ac (k : EntD) (e : Evt) : AC Try.prog 65 [kp k, ev e] (B (e.kind == k.kind && e.key == k.key)) := by
  refine AC.of_body Try.func65 rfl rfl Try.ntmps65 (congrArg Array.toList Try.results65) (by simp) (pures2 (pure_kp _) (pure_ev _)) (pure_B _) fun w S' => AWp.of_vc [] ?_
  by_cases h1 : e.kind = k.kind
  · simp [go_sem, h1]
    refine PostR.ret ?_
    simp [go_sem, h1]
  · simp [go_sem, h1]
    refine PostR.ret ?_
    simp [go_sem, h1]

set_option maxRecDepth 8000 in
set_option maxHeartbeats 4000000 in
theorem keysP_ac (e : Evt) : AC Try.prog 66 [ev e] (kps (keysOf e)) := by
  refine AC.of_body Try.func66 rfl rfl Try.ntmps66 (congrArg Array.toList Try.results66) (by simp) (pures1 (pure_ev _)) (pureR_kps _) fun w S' => AWp.of_vc [] ?_
  have hle := keysOf_len e
  have hm : (keysOf e).length ≤ maxLen := by unfold maxLen; omega
  generalize hL : keysOf e = L at hle hm ⊢
  simp [go_sem]
  refine CallSem.pure (keys_ac e) (by simp [go_sem]) ?_
  rw [hL]
  simp [go_sem]
  refine AWp.ownNil 3 84 2 (by simp [go_sem]) ?_
  refine AWp.loop_vc [] (fun m s => ∃ q v : Nat, q ≤ L.length ∧ m = L.length - q ∧ s.σ 7 = ents L ∧ s.σ 8 = I L.length ∧ s.σ 9 = I q ∧ s.σ 3 = .ref 3 v ∧ s.ver 3 = v ∧ s.h 3 = .arr 84 2 ((L.take q).map kp)) L.length ⟨0, 1, by simp [go_sem]⟩ ?_
  rintro m s ⟨q, v, hq, rfl, h7, h8, h9, h3, hv3, hh3⟩
  by_cases hlt : q < L.length
  · simp [go_sem, h7, h8, h9, h3, hv3, hh3, hlt, wrap_succ hlt hm]
    refine ⟨⟨by omega, by omega⟩, L.length - (q + 1), by omega, q + 1, by omega, rfl, rfl, ?_⟩
    rw [← List.map_take, ← List.map_take, List.take_succ_eq_append_getElem hlt]
    simp only [List.map_append, List.map_cons, List.map_nil]
    rfl
  · simp [go_sem, h7, h8, h9, h3, hv3, hh3, hlt]
    rw [List.take_of_length_le (by omega)] at hh3
    refine PostR.retW [3] ?_ (.refl _)
    simp [go_sem, h3, hv3, hh3]

end Go.Proofs.Ytppgiipgppeenaa

-- part A4
namespace Go.Proofs.Ytppgiipgppeenaa
open Go Go.Abs
set_option linter.unusedSimpArgs false
def hits (s : List EntD) (L : List EntD) : List Int := L.filterMap fun k => rgetOf s k.kind k.key
theorem hits_succ {s L : List EntD} {q : Nat} (h : q < L.length) : hits s (L.take (q + 1)) = hits s (L.take q) ++ (rgetOf s L[q].kind L[q].key).toList := by
  unfold hits
  rw [List.take_succ_eq_append_getElem h, List.filterMap_append]
  simp only [List.filterMap_cons, List.filterMap_nil]
  cases rgetOf s L[q].kind L[q].key <;> rfl
theorem hits_len (s : List EntD) (L : List EntD) : (hits s L).length ≤ L.length := List.length_filterMap_le _ _
def selOf (e : Evt) (s : List EntD) : List Int := sortedL (hits s (keysOf e))
theorem rget_some {s : List EntD} {k : Int} {key : Bytes} {j : Nat} (hj : j < s.length) (hno : ∀ (i : Nat) x, i < j → s[i]? = some x → isKey k key x = false) (hp : isKey k key s[j] = true) : rgetOf s k key = some s[j].id := by
  unfold rgetOf
  rw [List.find?_eq_some_iff_getElem.2 ⟨hp, j, hj, rfl, fun i hi => ?_⟩]
  · rfl
  · simp [hno i _ hi (List.getElem?_eq_getElem (by omega))]
theorem rget_none {s : List EntD} {k : Int} {key : Bytes} (hno : ∀ (i : Nat) x, i < s.length → s[i]? = some x → isKey k key x = false) : rgetOf s k key = none := by
  unfold rgetOf
  rw [List.find?_eq_none.2 fun x hx => ?_]
  · rfl
  · obtain ⟨i, hi, rfl⟩ := List.mem_iff_getElem.1 hx
    simp [hno i _ hi (List.getElem?_eq_getElem hi)]

theorem sortedL_snoc (l : List Int) (x : Int) : sortedL (l ++ [x]) = putL (sortedL l) x := by
  unfold sortedL
  rw [List.foldl_append]; rfl

end Go.Proofs.Ytppgiipgppeenaa

-- part A5
namespace Go.Proofs.Ytppgiipgppeenaa
open Go Go.Abs
set_option linter.unusedSimpArgs false
def isIn (L : List EntD) (k : Int) (key : Bytes) : Bool := L.any (isKey k key)
def fitsKey (e : Evt) (k : EntD) : Bool := e.kind == k.kind && e.key == k.key


theorem pureR_evsA (l : List Evt) : PureR (evs l) := pure_evs l
def ofIds (l : List Evt) (ids : List Int) : List Evt := ids.filterMap (getE l)
theorem ofIds_succ {l : List Evt} {ids : List Int} {q : Nat} (h : q < ids.length) : ofIds l (ids.take (q + 1)) = ofIds l (ids.take q) ++ (getE l ids[q]).toList := by
  unfold ofIds
  rw [List.take_succ_eq_append_getElem h, List.filterMap_append]
  simp only [List.filterMap_cons, List.filterMap_nil]
  cases getE l ids[q] <;> rfl
theorem ofIds_len (l : List Evt) (ids : List Int) : (ofIds l ids).length ≤ ids.length := List.length_filterMap_le _ _
set_option maxRecDepth 8000 in
set_option maxHeartbeats 4000000 in
theorem rofE_ac (l : List Evt) (ids : List Int) (hsz : ids.length ≤ 100000) : AC Try.prog 69 [evs l, ints ids] (evs (ofIds l ids)) := by
  refine AC.of_body Try.func69 rfl rfl Try.ntmps69 (congrArg Array.toList Try.results69) (by simp) (pures2 (pure_evs _) (pure_ints _)) (pureR_evsA _) fun w S' => AWp.of_vc [] ?_
  have hm : ids.length ≤ maxLen := by unfold maxLen; omega
  simp [go_sem]
  refine AWp.ownNil 5 35 29 (by simp [go_sem]) ?_
  refine AWp.loop_vc [] (fun m s => ∃ q v : Nat, q ≤ ids.length ∧ m = ids.length - q ∧ s.σ 0 = evs l ∧ s.σ 1 = ints ids ∧ s.σ 6 = I q ∧ s.σ 5 = .ref 5 v ∧ s.ver 5 = v ∧ s.h 5 = .arr 35 29 ((ofIds l (ids.take q)).map ev)) ids.length ⟨0, 1, by simp [go_sem, ofIds]⟩ ?_
  rintro m s ⟨q, v, hq, rfl, h0, h1, h6, h5, hv5, hh5⟩
  have hol := ofIds_len l (ids.take q)
  rw [List.length_take] at hol
  by_cases hlt : q < ids.length
  · have hsu := ofIds_succ (l := l) hlt
    simp [go_sem, h0, h1, h6, h5, hv5, hh5, hlt]
    refine CallSem.pure (rgetE_ac l ids[q]) (by simp [go_sem]) ?_
    cases hg : getE l ids[q] with
    | none =>
      rw [hg] at hsu
      simp [go_sem, h0, h1, h6, h5, hv5, hh5, hlt, wrap_succ hlt hm]
      exact ⟨ids.length - (q + 1), by omega, q + 1, by omega, rfl, rfl, by rw [hsu]; simp⟩
    | some x =>
      rw [hg] at hsu
      simp [go_sem, h0, h1, h6, h5, hv5, hh5, hlt, wrap_succ hlt hm]
      refine ⟨⟨by omega, by omega⟩, ids.length - (q + 1), by omega, q + 1, by omega, rfl, rfl, by rw [hsu]; simp [ev, evc]⟩
  · rw [List.take_of_length_le (by omega)] at hh5
    simp [go_sem, h0, h1, h6, h5, hv5, hh5, hlt]
    refine PostR.retW [5] ?_ (.refl _)
    simp [go_sem, h5, hv5, hh5]


end Go.Proofs.Ytppgiipgppeenaa

-- part A6
namespace Go.Proofs.Ytppgiipgppeenaa
open Go Go.Abs
set_option linter.unusedSimpArgs false
theorem AWp_post {G : Ctx} {c : Code} {Q : Exit → St → Prop} {st : St} (h : ∀ Q' : Exit → St → Prop, Q' = Q → AWp G c Q' st) : AWp G c Q st := h Q rfl
theorem AWp_state {G : Ctx} {c : Code} {Q : Exit → St → Prop} {st : St} (P : St → Prop) (h : P st) (k : ∀ t, P t → AWp G c Q t) : AWp G c Q st := k st h
theorem fz_put (st : St) (d : Option Tmp) (v : AV) (id : Nat) (a : AV) : fz (st.put d v) id a = fz st id a := by
  cases d <;> rfl
def dropStep (L : List EntD) (x : Evt) : Option (List EntD) := if idxI (fitsKey x) L < 0 then none else some (L.eraseIdx (idxI (fitsKey x) L).toNat)
def lastErr (made : Bool) : Int := if made = true then 0 else 16
def tryKeys (made : Bool) (a : List Evt) (o : Option (List EntD)) : Int :=
  match o with
  | none => 16
  | some _ => lastErr (made || a.any fun x => x.kind == 1)
def gapOf (l : List Evt) (ids : List Int) : Bool := ids.any fun id => (getE l id).isNone
def roomOf (a : List Evt) (room : Bytes) : Bool := a.any fun x => x.room != room
def fitsOf (l : List Evt) (e : Evt) : Int :=
  if gapOf l e.auth = true then 14 else
  if roomOf (ofIds l e.auth) e.room = true then 13 else
  tryKeys (e.kind == 1) (ofIds l e.auth) ((ofIds l e.auth).foldlM dropStep (keysOf e))
theorem foldM_succ {σ α : Type} (f : σ → α → Option σ) {s s' : σ} {l : List α} {q : Nat} (h : q < l.length) (hs : (l.take q).foldlM f s = some s') : (l.take (q + 1)).foldlM f s = f s' l[q] := by
  rw [List.take_succ_eq_append_getElem h, List.foldlM_append, hs]
  simp
theorem foldM_none {σ α : Type} (f : σ → α → Option σ) {s s' : σ} {l : List α} {q : Nat} (h : q < l.length) (hs : (l.take q).foldlM f s = some s') (hn : f s' l[q] = none) : l.foldlM f s = none := by
  have h1 := foldM_succ f h hs
  rw [hn] at h1
  rw [← List.take_append_drop (q + 1) l, List.foldlM_append, h1]
  rfl
theorem dropStep_len {L L' : List EntD} {x : Evt} (h : dropStep L x = some L') : L'.length ≤ L.length := by
  unfold dropStep at h
  split at h
  · cases h
  · cases h; exact List.length_eraseIdx_le _ _
theorem any_take {α : Type} {l : List α} {p : α → Bool} {k : Nat} (hk : k < l.length) : (l.take (k + 1)).any p = ((l.take k).any p || p l[k]) := by
  rw [List.take_succ_eq_append_getElem hk]
  simp only [List.any_append, List.any_cons, List.any_nil, Bool.or_false]
theorem gap_named {l : List Evt} {ids : List Int} (h : gapOf l ids = false) : (ofIds l ids).length = ids.length := by
  unfold gapOf at h
  unfold ofIds
  induction ids with
  | nil => rfl
  | cons id ids ih =>
    simp only [List.any_cons, Bool.or_eq_false_iff] at h
    cases hg : getE l id with
    | none => rw [hg] at h; cases h.1
    | some x => simp only [List.filterMap_cons, hg, List.length_cons]; rw [ih h.2]

end Go.Proofs.Ytppgiipgppeenaa

-- part A7
namespace Go.Proofs.Ytppgiipgppeenaa
open Go Go.Abs
set_option linter.unusedSimpArgs false
def rStep (K : List EntD) (seen : List EntD) (x : Evt) : Option (List EntD) := if (!isIn K x.kind x.key || isIn seen x.kind x.key) = true then none else some (seen ++ [⟨x.kind, x.key, 0⟩])
def rEnd (k : Int) (o : Option (List EntD)) : Int :=
  match o with
  | none => 16
  | some seen => if (k != 1 && !isIn seen 1 []) = true then 16 else 0
def rfitsOf (l : List Evt) (e : Evt) : Int :=
  if gapOf l e.auth = true then 14 else
  if roomOf (ofIds l e.auth) e.room = true then 13 else
  rEnd e.kind ((ofIds l e.auth).foldlM (rStep (keysOf e)) [])
theorem rStep_len {K s s' : List EntD} {x : Evt} (h : rStep K s x = some s') : s'.length = s.length + 1 := by
  unfold rStep at h
  split at h
  · cases h
  · cases h; simp
theorem flatB (b : Bool) : FlatR (B b) := flat_v _

end Go.Proofs.Ytppgiipgppeenaa

-- part A8
namespace Go.Proofs.Ytppgiipgppeenaa
open Go Go.Abs
set_option linter.unusedSimpArgs false
def fromK (A : List Evt) (k : EntD) : Option Evt := A.find? fun x => fitsKey x k
def froms (A : List Evt) (K : List EntD) : List Evt := K.filterMap (fromK A)
def fromOf (l : List Evt) (e : Evt) : List Evt := froms (ofIds l e.auth) (keysOf e)
theorem froms_succ {A : List Evt} {L : List EntD} {q : Nat} (h : q < L.length) : froms A (L.take (q + 1)) = froms A (L.take q) ++ (fromK A L[q]).toList := by
  unfold froms
  rw [List.take_succ_eq_append_getElem h, List.filterMap_append]
  simp only [List.filterMap_cons, List.filterMap_nil]
  cases fromK A L[q] <;> rfl
theorem froms_len (A : List Evt) (L : List EntD) : (froms A L).length ≤ L.length := List.length_filterMap_le _ _
theorem fromK_snoc (A : List Evt) (x : Evt) (k : EntD) (h : fromK A k = none) : fromK (A ++ [x]) k = if fitsKey x k = true then some x else none := by
  unfold fromK at h ⊢
  rw [List.find?_append, h]
  cases hp : fitsKey x k <;> simp [hp]
theorem fromK_app (A B : List Evt) (x : Evt) (k : EntD) (h : fromK A k = some x) : fromK (A ++ B) k = some x := by
  unfold fromK at h ⊢
  rw [List.find?_append, h]; rfl
theorem ofIds_split (l : List Evt) (ids : List Int) (q : Nat) : ofIds l ids = ofIds l (ids.take q) ++ ofIds l (ids.drop q) := by
  unfold ofIds
  rw [← List.filterMap_append, List.take_append_drop]
set_option maxRecDepth 8000 in
set_option maxHeartbeats 4000000 in
theorem from_ac (l : List Evt) (e : Evt) (hsz : e.auth.length ≤ 100000) : AC Try.prog 38 [evs l, ev e] (evs (fromOf l e)) := by
  refine AC.of_body Try.func38 rfl rfl Try.ntmps38 (congrArg Array.toList Try.results38) (by simp) (pures2 (pure_evs _) (pure_ev _)) (pureR_evsA _) fun w S' => AWp.of_vc [] ?_
  have hma : e.auth.length ≤ maxLen := by unfold maxLen; omega
  have hle := keysOf_len e
  have hm : (keysOf e).length ≤ maxLen := by unfold maxLen; omega
  unfold fromOf
  generalize hL : keysOf e = L at hle hm ⊢
  generalize hA : ofIds l e.auth = A
  simp [go_sem]
  refine CallSem.pure (keysP_ac e) (by simp [go_sem]) ?_
  rw [hL]
  simp [go_sem]
  refine AWp.ownNil 6 35 29 (by simp [go_sem]) ?_
  refine AWp.loop_vc [] (fun m s' => ∃ q v : Nat, q ≤ L.length ∧ m = L.length - q ∧ s'.σ 0 = evs l ∧ s'.σ 3 = .eptr (evc e) 0 ∧ s'.σ 5 = .fn (.func 65) [] [] ∧ s'.σ 14 = kps L ∧ s'.σ 15 = I L.length ∧ s'.σ 16 = I q ∧ s'.σ 6 = .ref 6 v ∧ s'.ver 6 = v ∧ s'.h 6 = .arr 35 29 ((froms A (L.take q)).map ev)) L.length ⟨0, 1, by simp [go_sem, froms]⟩ ?_
  rintro m s' ⟨q, v, hq, rfl, h0, h3, h5, h14, h15, h16, h6, hv6, hh6⟩
  by_cases hlt : q < L.length
  · simp [go_sem, h0, h3, h5, h14, h15, h16, h6, hv6, hh6, hlt, wrap_succ hlt hm]
    refine AWp.loop_vc [] (fun m s'' => ∃ j v8 : Nat, j ≤ e.auth.length ∧ m = e.auth.length - j ∧ s''.σ 0 = evs l ∧ s''.σ 3 = .eptr (evc e) 0 ∧ s''.σ 5 = .fn (.func 65) [] [] ∧ s''.σ 14 = kps L ∧ s''.σ 15 = I L.length ∧ s''.σ 16 = I q ∧ s''.σ 6 = .ref 6 v ∧ s''.ver 6 = v ∧ s''.h 6 = .arr 35 29 ((froms A (L.take q)).map ev) ∧ s''.σ 21 = ints e.auth ∧ s''.σ 22 = I e.auth.length ∧ s''.σ 23 = I j ∧ s''.σ 8 = .rptr 8 v8 0 0 ∧ s''.ver 8 = v8 ∧ s''.h 8 = .box (kenc L[q]) ∧ fromK (ofIds l (e.auth.take j)) L[q] = none) e.auth.length ⟨0, s'.ver 8 + 1, by simp [go_sem, h0, h3, h5, h14, h15, h16, h6, hv6, hh6, ofIds, fromK]⟩ ?_
    clear h0 h3 h5 h14 h15 h16 h6 hv6 hh6
    rintro m s'' ⟨j, v8, hj, rfl, h0, h3, h5, h14, h15, h16, h6, hv6, hh6, h21, h22, h23, h8, hv8, hh8, hno⟩
    have hhl := froms_len A (L.take q)
    rw [List.length_take] at hhl
    have hsu := froms_succ (A := A) hlt
    by_cases hjl : j < e.auth.length
    · have hou := ofIds_succ (l := l) hjl
      simp [go_sem, h0, h3, h5, h14, h15, h16, h6, hv6, hh6, h21, h22, h23, h8, hv8, hh8, hjl]
      refine CallSem.pure (sget_ac l e.auth[j]) (by simp [go_sem]) ?_
      cases hg : getE l e.auth[j] with
      | none =>
        rw [hg] at hou
        simp only [Option.toList_none, List.append_nil] at hou
        simp [go_sem, h0, h3, h5, h14, h15, h16, h6, hv6, hh6, h21, h22, h23, h8, hv8, hh8, hjl, wrap_succ hjl hma]
        exact ⟨e.auth.length - (j + 1), by omega, j + 1, by omega, rfl, rfl, by rw [hou]; exact hno⟩
      | some x =>
        rw [hg] at hou
        simp only [Option.toList_some] at hou
        have hsn := fromK_snoc _ x _ hno
        rw [← hou] at hsn
        simp [go_sem, h0, h3, h5, h14, h15, h16, h6, hv6, hh6, h21, h22, h23, h8, hv8, hh8, hjl]
        refine CallSem.pure (in_ac L[q] x) (by simp [go_sem, kp, ev, evc]) ?_
        cases hp : fitsKey x L[q] with
        | true =>
          have hp' := hp
          unfold fitsKey at hp'
          rw [hp] at hsn
          have hfk := fromK_app _ (ofIds l (e.auth.drop (j + 1))) x _ hsn
          rw [← ofIds_split, hA] at hfk
          rw [hfk] at hsu
          simp [go_sem, h0, h3, h5, h14, h15, h16, h6, hv6, hh6, h21, h22, h23, h8, hv8, hh8, hjl, hp', wrap_succ hlt hm]
          exact ⟨⟨by omega, by omega⟩, L.length - (q + 1), by omega, q + 1, by omega, rfl, rfl, by rw [hsu]; simp [ev, evc]⟩
        | false =>
          have hp' := hp
          unfold fitsKey at hp'
          rw [hp] at hsn
          simp [go_sem, h0, h3, h5, h14, h15, h16, h6, hv6, hh6, h21, h22, h23, h8, hv8, hh8, hjl, hp', wrap_succ hjl hma]
          exact ⟨e.auth.length - (j + 1), by omega, j + 1, by omega, rfl, rfl, hsn⟩
    · rw [List.take_of_length_le (by omega), hA] at hno
      rw [hno] at hsu
      simp [go_sem, h0, h3, h5, h14, h15, h16, h6, hv6, hh6, h21, h22, h23, h8, hv8, hh8, hjl, wrap_succ hlt hm]
      exact ⟨L.length - (q + 1), by omega, q + 1, by omega, rfl, rfl, by rw [hsu]; simp⟩
  · simp [go_sem, h0, h3, h5, h14, h15, h16, h6, hv6, hh6, hlt]
    rw [List.take_of_length_le (by omega)] at hh6
    refine PostR.retW [6] ?_ (.refl _)
    simp [go_sem, h6, hv6, hh6]

theorem fromK_some {A : List Evt} {k : EntD} {j : Nat} (hj : j < A.length) (hno : ∀ (i : Nat) x, i < j → A[i]? = some x → fitsKey x k = false) (hp : fitsKey A[j] k = true) : fromK A k = some A[j] := by
  unfold fromK
  exact List.find?_eq_some_iff_getElem.2 ⟨hp, j, hj, rfl, fun i hi => by simp [hno i _ hi (List.getElem?_eq_getElem (by omega))]⟩
theorem fromK_none {A : List Evt} {k : EntD} (hno : ∀ (i : Nat) x, i < A.length → A[i]? = some x → fitsKey x k = false) : fromK A k = none := by
  unfold fromK
  refine List.find?_eq_none.2 fun x hx => ?_
  obtain ⟨i, hi, rfl⟩ := List.mem_iff_getElem.1 hx
  simp [hno i _ hi (List.getElem?_eq_getElem hi)]
set_option maxRecDepth 8000 in
set_option maxHeartbeats 4000000 in
theorem rfrom_ac (l : List Evt) (e : Evt) (hsz : e.auth.length ≤ 100000) : AC Try.prog 41 [evs l, ev e] (evs (fromOf l e)) := by
  refine AC.of_body Try.func41 rfl rfl Try.ntmps41 (congrArg Array.toList Try.results41) (by simp) (pures2 (pure_evs _) (pure_ev _)) (pureR_evsA _) fun w S' => AWp.of_vc [] ?_
  have hle := keysOf_len e
  have hm : (keysOf e).length ≤ maxLen := by unfold maxLen; omega
  have hol := ofIds_len l e.auth
  unfold fromOf
  simp [go_sem]
  refine CallSem.pure (rkeys_ac e) (by simp [go_sem]) ?_
  simp [go_sem]
  refine CallSem.pure (rofE_ac l e.auth hsz) (by simp [go_sem]) ?_
  generalize hL : keysOf e = L at hle hm ⊢
  generalize hA : ofIds l e.auth = A at hol ⊢
  have hAm : A.length ≤ maxLen := by unfold maxLen; omega
  simp [go_sem]
  refine AWp.ownNil 7 35 29 (by simp [go_sem]) ?_
  refine AWp.loop_vc [] (fun m s' => ∃ q v : Nat, q ≤ L.length ∧ m = L.length - q ∧ s'.σ 5 = ents L ∧ s'.σ 6 = evs A ∧ s'.σ 8 = I q ∧ s'.σ 7 = .ref 7 v ∧ s'.ver 7 = v ∧ s'.h 7 = .arr 35 29 ((froms A (L.take q)).map ev)) L.length ⟨0, 1, by simp [go_sem, froms]⟩ ?_
  rintro m s' ⟨q, v, hq, rfl, h5, h6, h8, h7, hv7, hh7⟩
  by_cases hlt : q < L.length
  · simp [go_sem, h5, h6, h8, h7, hv7, hh7, hlt, wrap_succ hlt hm]
    have hhl := froms_len A (L.take q)
    rw [List.length_take] at hhl
    have hsu := froms_succ (A := A) hlt
    refine AWp.loop_vc [] (fun m s'' => ∃ (j v : Nat) (f : Bool), j ≤ A.length ∧ m = (if f = true then 0 else A.length - j + 1) ∧ s''.σ 5 = ents L ∧ s''.σ 6 = evs A ∧ s''.σ 8 = I q ∧ s''.σ 9 = B f ∧ s''.σ 10 = I j ∧ s''.σ 7 = .ref 7 v ∧ s''.ver 7 = v ∧
      s''.h 7 = .arr 35 29 ((if f = true then froms A (L.take (q + 1)) else froms A (L.take q)).map ev) ∧ (f = false → ∀ (i : Nat) x, i < j → A[i]? = some x → fitsKey x L[q] = false)) (A.length + 1) ⟨0, v, false, by simp [go_sem, h5, h6, h8, h7, hv7, hh7]⟩ ?_
    clear h5 h6 h8 h7 hv7 hh7
    rintro m s'' ⟨j, v, f, hj, rfl, h5, h6, h8, h9, h10, h7, hv7, hh7, hno⟩
    cases f with
    | true =>
      simp only [if_true] at hh7
      by_cases hjl : j < A.length
      · simp [go_sem, h5, h6, h7, hv7, hh7, h8, h9, h10, hjl, wrap_succ hlt hm]
        exact ⟨L.length - (q + 1), by omega, q + 1, by omega, rfl, rfl, rfl⟩
      · simp [go_sem, h5, h6, h7, hv7, hh7, h8, h9, h10, hjl, wrap_succ hlt hm]
        exact ⟨L.length - (q + 1), by omega, q + 1, by omega, rfl, rfl, rfl⟩
    | false =>
      simp only [Bool.false_eq_true, if_false] at hh7
      have hno := hno rfl
      by_cases hjl : j < A.length
      · simp [go_sem, h5, h6, h7, hv7, hh7, h8, h9, h10, hjl, wrap_succ hlt hm]
        refine AWp.drawAll rfl (by kernel_rfl) ?_
        simp [go_sem, h5, h6, h7, hv7, hh7, h8, h9, h10, hjl, hlt]
        cases hp : fitsKey A[j] L[q] with
        | true =>
          have hp' := hp
          unfold fitsKey at hp'
          simp only [Bool.and_eq_true, beq_iff_eq] at hp'
          rw [fromK_some hjl hno hp] at hsu
          simp [go_sem, h5, h6, h7, hv7, hh7, h8, h9, h10, hjl, hlt, hp'.1, hp'.2, wrap_succ hjl hAm]
          exact ⟨⟨by omega, by omega⟩, 0, by omega, j + 1, by omega, rfl, rfl, by rw [hsu]; simp [ev, evc]⟩
        | false =>
          by_cases hk : A[j].kind = L[q].kind
          · have hkey : ¬ A[j].key = L[q].key := fun h => by unfold fitsKey at hp; simp [hk, h] at hp
            simp [go_sem, h5, h6, h7, hv7, hh7, h8, h9, h10, hjl, hlt, hk, hkey, wrap_succ hjl hAm]
            exact ⟨A.length - (j + 1) + 1, by omega, j + 1, by omega, rfl, rfl, below_step hjl hno hp⟩
          · simp [go_sem, h5, h6, h7, hv7, hh7, h8, h9, h10, hjl, hlt, hk, wrap_succ hjl hAm]
            exact ⟨A.length - (j + 1) + 1, by omega, j + 1, by omega, rfl, rfl, below_step hjl hno hp⟩
      · rw [fromK_none fun i x hi hx => hno i x (by omega) hx] at hsu
        simp [go_sem, h5, h6, h7, hv7, hh7, h8, h9, h10, hjl, wrap_succ hlt hm]
        exact ⟨L.length - (q + 1), by omega, q + 1, by omega, rfl, rfl, by rw [hsu]; simp⟩
  · rw [List.take_of_length_le (by omega)] at hh7
    simp [go_sem, h5, h6, h7, hv7, hh7, h8, hlt]
    refine PostR.retW [7] ?_ (.refl _)
    simp [go_sem, h7, hv7, hh7]

end Go.Proofs.Ytppgiipgppeenaa
