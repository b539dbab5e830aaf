/- Contracts of chapter 36: find, known; the reference's Get, Once. No condition. -/
import Derived.Test.YtckoolpjphhfdaaR1
namespace Go.Proofs.Ytckoolpjphhfdaa
open Go Go.Abs
set_option linter.unusedSimpArgs false
set_option linter.unusedVariables false
set_option maxRecDepth 8000 in
set_option maxHeartbeats 4000000 in
theorem findC_ac (e : Evt) (id : Int) : AC Try.prog 41 [ev e, .eptr [I id] 0] (B (e.id == id)) := by
  refine AC.of_body Try.func41 rfl rfl Try.ntmps41 (congrArg Array.toList Try.results41) (by simp) (pures2 (pure_ev _) (pure_eptr fun c h => by simp only [List.mem_singleton] at h; subst h; exact pure_I _)) (pure_B _) fun w S' => AWp.of_vc [] ?_
  simp [go_sem]
  refine PostR.ret ?_
  simp [go_sem]

set_option maxRecDepth 8000 in
set_option maxHeartbeats 4000000 in
theorem find_ac (l : List Evt) (id : Int) : AC Try.prog 29 [evs l, I id] (optE (getE l id)) := by
  refine AC.of_body Try.func29 rfl rfl Try.ntmps29 (congrArg Array.toList Try.results29) (by simp) (pures2 (pure_evs _) (pure_I _)) (pureR_optE _) fun w S' => AWp.of_vc [] ?_
  simp [go_sem]
  refine CallSem.pure (indexFunc_gen 41 [.eptr [I id] 0] (fun e => e.id == id) (fun e => findC_ac e id) (fun c h => by simp only [List.mem_singleton] at h; subst h; exact pure_eptr fun c h => by simp only [List.mem_singleton] at h; subst h; exact pure_I _) l) (by simp [go_sem]) ?_
  rcases idxI_find (fun e : Evt => e.id == id) l with ⟨hf, hi⟩ | ⟨k, hk, hf, hi⟩
  · simp [go_sem, hi]
    refine PostR.retW [] (r0 := .tup [.agg evZc, B false]) (by simp [go_sem, evZc]) ?_
    have : getE l id = none := hf
    rw [this]
    exact .tup ⟨.one (.agg wk_evZ), .refl _, trivial⟩
  · have hneg : ¬ ((k : Int) < 0) := by omega
    simp [go_sem, hi, hneg, hk]
    refine PostR.ret ?_
    have : getE l id = some l[k] := hf
    simp [go_sem, this]

/-- The first event with an id above 0. -/
def rget (l : List Evt) (id : Int) : Option Evt := if 0 < id then getE l id else none
theorem getE_miss {l : List Evt} {id : Int} (h : ∀ (j : Nat) e, l[j]? = some e → e.id ≠ id) : getE l id = none := by
  unfold getE
  rw [List.find?_eq_none]
  intro e he
  obtain ⟨j, hj⟩ := List.mem_iff_getElem?.1 he
  simpa using h j e hj
theorem getE_hit {l : List Evt} {k : Nat} {id : Int} (hk : k < l.length) (hp : l[k].id = id) (hno : ∀ (j : Nat) e, j < k → l[j]? = some e → e.id ≠ id) : getE l id = some l[k] := by
  unfold getE
  rw [List.find?_eq_some_iff_getElem]
  exact ⟨by simpa using hp, k, hk, rfl, fun j hj => by have := hno j _ hj (List.getElem?_eq_getElem (by omega)); simpa using this⟩
set_option maxRecDepth 8000 in
set_option maxHeartbeats 4000000 in
theorem rget36_ac (l : List Evt) (id : Int) : AC Try.prog 25 [evs l, I id] (optE (rget l id)) := by
  refine AC.of_body Try.func25 rfl rfl Try.ntmps25 (congrArg Array.toList Try.results25) (by simp) (pures2 (pure_evs _) (pure_I _)) (pureR_optE _) fun w S' => AWp.bound 0 rfl fun hlen => AWp.of_vc [] ?_
  rw [evs_len] at hlen
  unfold rget
  by_cases hp : 0 < id
  · rw [if_pos hp]
    simp [go_sem]
    refine AWp.loop_vc [] (fun m s => ∃ k : Nat, k ≤ l.length ∧ m = l.length - k ∧ s.σ 0 = evs l ∧ s.σ 1 = I id ∧ s.σ 6 = I k ∧ s.σ 4 = .rptr 4 1 0 0 ∧ s.ver 4 = 1 ∧ s.h 4 = .box evZc ∧ ∀ (j : Nat) e, j < k → l[j]? = some e → e.id ≠ id) l.length ⟨0, by simp [go_sem, evZc]⟩ ?_
    rintro m s ⟨k, hk, rfl, h0, h1, h6, h4, hv4, hh4, hno⟩
    by_cases hlt : k < l.length
    · by_cases he : l[k].id = id
      · simp [go_sem, evZc, h0, h1, h6, h4, hv4, hh4, hlt, hp, he]
        refine PostR.ret ?_
        rw [getE_hit hlt he hno]
        simp [go_sem, h4, hv4, hh4]
      · simp [go_sem, evZc, h0, h1, h6, h4, hv4, hh4, hlt, hp, he, wrap_succ hlt hlen]
        refine ⟨l.length - (k + 1), by omega, k + 1, by omega, rfl, rfl, fun j e hj hje => ?_⟩
        rcases Nat.lt_succ_iff_lt_or_eq.1 hj with hj | rfl
        · exact hno j e hj hje
        · rw [List.getElem?_eq_getElem hlt] at hje; cases hje; exact he
    · simp [go_sem, evZc, h0, h1, h6, h4, hv4, hh4, hlt]
      refine PostR.retW [] (r0 := .tup [.agg evZc, B false]) (by simp [go_sem, evZc, h4, hv4, hh4]) ?_
      rw [getE_miss fun j e hj => hno j e (by have := (List.getElem?_eq_some_iff.1 hj).1; omega) hj]
      exact .tup ⟨.one (.agg wk_evZ), .refl _, trivial⟩
  · rw [if_neg hp]
    simp [go_sem]
    refine AWp.loop_vc [] (fun m s => ∃ k : Nat, k ≤ l.length ∧ m = l.length - k ∧ s.σ 0 = evs l ∧ s.σ 1 = I id ∧ s.σ 6 = I k ∧ s.σ 4 = .rptr 4 1 0 0 ∧ s.ver 4 = 1 ∧ s.h 4 = .box evZc) l.length ⟨0, by simp [go_sem, evZc]⟩ ?_
    rintro m s ⟨k, hk, rfl, h0, h1, h6, h4, hv4, hh4⟩
    by_cases hlt : k < l.length
    · simp [go_sem, evZc, h0, h1, h6, h4, hv4, hh4, hlt, hp, wrap_succ hlt hlen]
      exact ⟨l.length - (k + 1), by omega, k + 1, by omega, rfl, rfl⟩
    · simp [go_sem, evZc, h0, h1, h6, h4, hv4, hh4, hlt]
      refine PostR.retW [] (r0 := .tup [.agg evZc, B false]) (by simp [go_sem, evZc, h4, hv4, hh4]) ?_
      exact .tup ⟨.one (.agg wk_evZ), .refl _, trivial⟩

end Go.Proofs.Ytckoolpjphhfdaa
