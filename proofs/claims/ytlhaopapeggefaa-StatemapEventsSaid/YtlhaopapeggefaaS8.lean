/- Contracts of chapter 10: both Of, both Events. No condition. -/
import Derived.Test.YtlhaopapeggefaaS7
import Derived.Test.YtlhaopapeggefaaE1
namespace Go.Proofs.Ytlhaopapeggefaa
open Go Go.Abs
set_option linter.unusedSimpArgs false
def ofStep (s : List EntD) (e : Evt) : List EntD := if isSt e.kind = true then setOf s e.kind e.key e.id else s
def ofOf (l : List Evt) : List EntD := l.foldl ofStep []
theorem setOf_len (s : List EntD) (k : Int) (key : Bytes) (id : Int) : (setOf s k key id).length ≤ s.length + 1 := by
  unfold setOf
  have := fidx_le s ⟨k, key, 0⟩
  rw [List.length_append, List.length_cons, List.length_drop, List.length_take]
  split <;> omega
theorem ofStep_len (l : List Evt) : ∀ s : List EntD, (l.foldl ofStep s).length ≤ s.length + l.length := by
  induction l with
  | nil => intro s; simp
  | cons e l ih =>
    intro s
    have h1 := ih (ofStep s e)
    have h2 : (ofStep s e).length ≤ s.length + 1 := by
      unfold ofStep; split
      · exact setOf_len _ _ _ _
      · omega
    simp only [List.foldl_cons, List.length_cons]; omega
theorem ofOf_len (l : List Evt) (k : Nat) : (ofOf (l.take k)).length ≤ k := by
  have := ofStep_len (l.take k) []
  simp only [List.length_nil, List.length_take] at this
  unfold ofOf; omega
theorem ofOf_succ {l : List Evt} {k : Nat} (h : k < l.length) : ofOf (l.take (k + 1)) = ofStep (ofOf (l.take k)) l[k] := by
  unfold ofOf
  rw [List.take_succ_eq_append_getElem h, List.foldl_append]; rfl
set_option maxRecDepth 8000 in
set_option maxHeartbeats 4000000 in
theorem of_ac (l : List Evt) (hn : l.length ≤ 100000) : AC Try.prog 29 [evs l] (ents (ofOf l)) := by
  refine AC.of_body Try.func29 rfl rfl Try.ntmps29 (congrArg Array.toList Try.results29) (by simp) (pures1 (pure_evs _)) (pureR_ents _) fun w S' => AWp.of_vc [] ?_
  have hm : l.length ≤ maxLen := by unfold maxLen; omega
  simp [go_sem]
  refine AWp.nilLst 3 3 (by simp [go_sem]) ?_
  refine AWp.loop_vc [] (fun m s => ∃ k : Nat, k ≤ l.length ∧ m = l.length - k ∧ s.σ 3 = ents (ofOf (l.take k)) ∧ s.σ 6 = evs l ∧ s.σ 7 = I l.length ∧ s.σ 8 = I k) l.length ⟨0, by simp [go_sem, ofOf]⟩ ?_
  rintro m s ⟨k, hk, rfl, h3, h6, h7, h8⟩
  by_cases hlt : k < l.length
  · have hle := ofOf_len l k
    have hst := ofOf_succ hlt
    simp [go_sem, h3, h6, h7, h8, hlt]
    refine CallSem.pure (isState_ac l[k].kind) (by simp [go_sem]) ?_
    cases hi : isSt l[k].kind with
    | true =>
      simp [ofStep, hi] at hst
      simp [go_sem, h3, h6, h7, h8, hlt]
      refine CallSem.pure (set_ac (ofOf (l.take k)) l[k].kind l[k].key l[k].id (by omega)) (by simp [go_sem]) ?_
      simp [go_sem, h3, h6, h7, h8, hlt, wrap_succ hlt hm]
      exact ⟨l.length - (k + 1), by omega, k + 1, by omega, rfl, by rw [hst], rfl⟩
    | false =>
      simp [ofStep, hi] at hst
      simp [go_sem, h3, h6, h7, h8, hlt, wrap_succ hlt hm]
      exact ⟨l.length - (k + 1), by omega, k + 1, by omega, rfl, by rw [hst], rfl⟩
  · simp [go_sem, h3, h6, h7, h8, hlt]
    refine PostR.ret ?_
    simp [go_sem, h3]
    rw [List.take_of_length_le (by omega)]
set_option maxRecDepth 8000 in
set_option maxHeartbeats 4000000 in
theorem rof_ac (l : List Evt) (hn : l.length ≤ 100000) : AC Try.prog 30 [evs l] (ents (ofOf l)) := by
  refine AC.of_body Try.func30 rfl rfl Try.ntmps30 (congrArg Array.toList Try.results30) (by simp) (pures1 (pure_evs _)) (pureR_ents _) fun w S' => AWp.of_vc [] ?_
  have hm : l.length ≤ maxLen := by unfold maxLen; omega
  simp [go_sem]
  refine AWp.loop_vc [] (fun m s => ∃ k : Nat, k ≤ l.length ∧ m = l.length - k ∧ s.σ 0 = evs l ∧ s.σ 3 = ents (ofOf (l.take k)) ∧ s.σ 4 = I k) l.length ⟨0, by simp [go_sem, ofOf]⟩ ?_
  rintro m s ⟨k, hk, rfl, h0, h3, h4⟩
  by_cases hlt : k < l.length
  · have hle := ofOf_len l k
    have hst := ofOf_succ hlt
    simp [go_sem, h0, h3, h4, hlt]
    refine CallSem.pure (kind_ac l[k].kind) (by simp [go_sem]) ?_
    cases hi : isSt l[k].kind with
    | true =>
      simp [ofStep, hi] at hst
      simp [go_sem, h0, h3, h4, hlt]
      refine AWp.drawAll rfl (by kernel_rfl) ?_
      simp [go_sem, h0, h3, h4, hlt]
      refine CalmThen.pure (rset_ac (ofOf (l.take k)) l[k].kind l[k].key l[k].id (by omega)) rfl ?_
      simp [go_sem, h0, h3, h4, hlt, wrap_succ hlt hm]
      exact ⟨l.length - (k + 1), by omega, k + 1, by omega, rfl, by rw [hst], rfl⟩
    | false =>
      simp [ofStep, hi] at hst
      simp [go_sem, h0, h3, h4, hlt, wrap_succ hlt hm]
      exact ⟨l.length - (k + 1), by omega, k + 1, by omega, rfl, by rw [hst], rfl⟩
  · simp [go_sem, h0, h3, h4, hlt]
    refine PostR.ret ?_
    simp [go_sem, h3]
    rw [List.take_of_length_le (by omega)]
def eventsOf (l : List Evt) (s : List EntD) : List Evt := s.filterMap fun e => getE l e.id
theorem eventsOf_succ (l : List Evt) {s : List EntD} {k : Nat} (h : k < s.length) : eventsOf l (s.take (k + 1)) = eventsOf l (s.take k) ++ (getE l s[k].id).toList := by
  unfold eventsOf
  rw [List.take_succ_eq_append_getElem h, List.filterMap_append]
  cases hg : getE l s[k].id <;> simp [hg]
theorem eventsOf_len (l : List Evt) (s : List EntD) (k : Nat) : (eventsOf l (s.take k)).length ≤ k := by
  have := List.length_filterMap_le (fun e : EntD => getE l e.id) (s.take k)
  simp only [List.length_take] at this
  unfold eventsOf; omega
theorem pureR_evs (l : List Evt) : PureR (evs l) := pure_evs l
set_option maxRecDepth 8000 in
set_option maxHeartbeats 4000000 in
theorem events_ac (l : List Evt) (s : List EntD) (hn : s.length ≤ 100000) : AC Try.prog 32 [evs l, ents s] (evs (eventsOf l s)) := by
  refine AC.of_body Try.func32 rfl rfl Try.ntmps32 (congrArg Array.toList Try.results32) (by simp) (pures2 (pure_evs _) (pure_ents _)) (pureR_evs _) fun w S' => AWp.of_vc [] ?_
  simp [go_sem]
  refine CallSem.pure (each_ac s) (by simp [go_sem]) ?_
  simp [go_sem]
  refine AWp.ownNilBox 5 23 58 29 (by simp [go_sem]) (by decide) ?_
  refine range_each (s := s) 19999 (by decide) (by simp [go_sem]) rfl (by simp) (by unfold maxLen; omega) (fun k s1 => ∃ v : Nat, s1.ver 5 = 1 ∧ s1.h 5 = .box [.ref 23 v] ∧ s1.ver 23 = v ∧ s1.h 23 = .arr 58 29 ((eventsOf l (s.take k)).map ev)) ?_ ⟨1, by simp [go_sem, eventsOf]⟩ ?_ ?_
  · rintro k s1 s2 ⟨v, h1, h2, h3, h4⟩ hσ hag
    have a5 := hag 5 (by decide) (by decide)
    have a23 := hag 23 (by decide) (by decide)
    exact ⟨v, a5.1.trans h1, a5.2.trans h2, a23.1.trans h3, a23.2.trans h4⟩
  · rintro k hk s1 L r V e0 ⟨v, h1, h2, h3, h4⟩ hσ hV hR
    have hl := eventsOf_len l s k
    have hst := eventsOf_succ l hk
    refine AWp.of_vc [6, 7, 23] ?_
    simp [go_sem, hV, hR]
    intro e1
    refine AWp.of_vc [6, 7, 23] ?_
    simp [go_sem, hV, hR]
    refine CallSem.pure (sget_ac l s[k].id) (by simp [go_sem]) ?_
    cases hg : getE l s[k].id with
    | none =>
      rw [hg] at hst
      simp at hst
      simp [go_sem, hV, hR, h1, h2, h3, h4, hst]
    | some e =>
      rw [hg] at hst
      simp at hst
      simp [go_sem, hV, hR, h1, h2, h3, h4, hst]
      exact ⟨by omega, by omega⟩
  · rintro s1 ⟨v, h1, h2, h3, h4⟩ hσ
    rw [List.take_length] at h4
    simp [go_sem, hσ, h1, h2, h3, h4]
    refine PostR.retW [23] ?_ (.refl _)
    simp [go_sem, hσ, h1, h2, h3, h4]
set_option maxRecDepth 8000 in
set_option maxHeartbeats 4000000 in
theorem revents_ac (l : List Evt) (s : List EntD) (hn : s.length ≤ 100000) : AC Try.prog 33 [evs l, ents s] (evs (eventsOf l s)) := by
  refine AC.of_body Try.func33 rfl rfl Try.ntmps33 (congrArg Array.toList Try.results33) (by simp) (pures2 (pure_evs _) (pure_ents _)) (pureR_evs _) fun w S' => AWp.of_vc [9] ?_
  have hm : s.length ≤ maxLen := by unfold maxLen; omega
  simp [go_sem]
  refine AWp.loop_vc [9] (fun m s' => ∃ k v : Nat, k ≤ s.length ∧ m = s.length - k ∧ s'.σ 0 = evs l ∧ s'.σ 1 = ents s ∧ s'.σ 6 = I k ∧ s'.σ 5 = .ref 9 v ∧ s'.ver 9 = v ∧ s'.h 9 = .arr 58 29 ((eventsOf l (s.take k)).map ev)) s.length ⟨0, 1, by simp [go_sem, eventsOf]⟩ ?_
  rintro m s' ⟨k, v, hk, rfl, h0, h1, h6, h5, hv, hh⟩
  by_cases hlt : k < s.length
  · have hl := eventsOf_len l s k
    have hst := eventsOf_succ l hlt
    simp [go_sem, h0, h1, h5, h6, hlt]
    refine CallSem.pure (rgetE_ac l s[k].id) (by simp [go_sem]) ?_
    cases hg : getE l s[k].id with
    | none =>
      rw [hg] at hst
      simp at hst
      simp [go_sem, h0, h1, h5, h6, hlt, hv, hh, wrap_succ hlt hm]
      exact ⟨s.length - (k + 1), by omega, k + 1, by omega, rfl, rfl, by rw [hst]⟩
    | some e =>
      rw [hg] at hst
      simp at hst
      simp [go_sem, h0, h1, h5, h6, hlt, hv, hh, wrap_succ hlt hm]
      exact ⟨⟨by omega, by omega⟩, s.length - (k + 1), by omega, k + 1, by omega, rfl, rfl, by rw [hst]; simp [go_sem]⟩
  · simp [go_sem, h0, h1, h5, h6, hlt]
    refine PostR.retW [9] ?_ (.refl _)
    rw [List.take_of_length_le (by omega)] at hh
    simp [go_sem, h5, hv, hh]
end Go.Proofs.Ytlhaopapeggefaa
