/- The examples of chapter 10, what its laws look at, copies. No condition. -/
import Derived.Test.YtlhaopapeggefaaS8
namespace Go.Proofs.Ytlhaopapeggefaa
open Go Go.Abs
set_option linter.unusedSimpArgs false
def shortOf (s : List EntD) : Bool := decide (s.length ≤ 60) && (decide (checkOf s = 0) && s.all fun e => decide (e.key.length ≤ 100))
set_option maxRecDepth 8000 in
set_option maxHeartbeats 4000000 in
theorem short_ac (s : List EntD) : AC Try.prog 13 [ents s] (B (shortOf s)) := by
  refine AC.of_body Try.func13 rfl rfl Try.ntmps13 (congrArg Array.toList Try.results13) (by simp) (pures1 (pure_ents _)) (pure_B _) fun w S' => AWp.bound 0 rfl fun hlen => AWp.of_vc [] ?_
  rw [ents_len] at hlen
  by_cases g : (60 : Int) < s.length
  · have hn : shortOf s = false := by simp [shortOf]; omega
    simp [go_sem, g, hn]
    refine PostR.ret ?_
    simp [go_sem]
  have g' : s.length ≤ 60 := by omega
  simp [go_sem, g]
  refine CallSem.pure (rcheck_ac s) (by simp [go_sem]) ?_
  by_cases hc : checkOf s = 0
  · simp [go_sem, g, hc]
    refine AWp.loop_vc [] (fun m s' => ∃ k : Nat, k ≤ s.length ∧ m = s.length - k ∧ s'.σ 0 = ents s ∧ s'.σ 3 = I k ∧ ∀ (j : Nat) e, j < k → s[j]? = some e → e.key.length ≤ 100) s.length ⟨0, by simp [go_sem]⟩ ?_
    rintro m s' ⟨k, hk, rfl, h0, h3, hyes⟩
    by_cases hlt : k < s.length
    · by_cases hp : (100 : Int) < s[k].key.length
      · have hn : shortOf s = false := by
          have : (s.all fun e => decide (e.key.length ≤ 100)) = false := all_false hlt (by simp; omega)
          simp only [shortOf, this, Bool.and_false]
        simp [go_sem, h0, h3, hlt, hp]
        refine PostR.ret ?_
        simp [go_sem, hn]
      · simp [go_sem, h0, h3, hlt, hp, wrap_succ hlt hlen]
        exact ⟨s.length - (k + 1), by omega, k + 1, by omega, rfl, rfl, below_step hlt hyes (by omega)⟩
    · have hy : (s.all fun e => decide (e.key.length ≤ 100)) = true := all_true fun j e hj => by simpa using hyes j e (by have := (List.getElem?_eq_some_iff.1 hj).1; omega) hj
      simp [go_sem, h0, h3, hlt]
      refine PostR.ret ?_
      simp only [shortOf, hy, hc, g']
      simp [go_sem]
  · have hn : shortOf s = false := by simp [shortOf, hc]
    simp [go_sem, g, hc]
    refine PostR.ret ?_
    simp [go_sem, hn]
def allShortOf (l : List (List EntD)) : Bool := decide (l.length ≤ 8) && l.all shortOf
set_option maxRecDepth 8000 in
set_option maxHeartbeats 4000000 in
theorem allShort_ac (l : List (List EntD)) : AC Try.prog 21 [states l] (B (allShortOf l)) := by
  refine AC.of_body Try.func21 rfl rfl Try.ntmps21 (congrArg Array.toList Try.results21) (by simp) (pures1 (pure_states _)) (pure_B _) fun w S' => AWp.bound 0 rfl fun hlen => AWp.of_vc [] ?_
  rw [states_len] at hlen
  by_cases g : (8 : Int) < l.length
  · have hn : allShortOf l = false := by simp [allShortOf]; omega
    simp [go_sem, g, hn]
    refine PostR.ret ?_
    simp [go_sem]
  have g' : l.length ≤ 8 := by omega
  simp [go_sem, g]
  refine AWp.loop_vc [] (fun m s' => ∃ k : Nat, k ≤ l.length ∧ m = l.length - k ∧ s'.σ 0 = states l ∧ s'.σ 3 = I k ∧ ∀ (j : Nat) s, j < k → l[j]? = some s → shortOf s = true) l.length ⟨0, by simp [go_sem]⟩ ?_
  rintro m s' ⟨k, hk, rfl, h0, h3, hyes⟩
  by_cases hlt : k < l.length
  · simp [go_sem, h0, h3, hlt]
    refine CallSem.pure (short_ac l[k]) (by simp [go_sem]) ?_
    cases hs : shortOf l[k] with
    | false =>
      simp [go_sem]
      refine PostR.ret ?_
      simp [go_sem, allShortOf, all_false hlt hs]
    | true =>
      simp [go_sem, h0, h3, hlt, wrap_succ hlt hlen]
      exact ⟨l.length - (k + 1), by omega, k + 1, by omega, rfl, rfl, below_step hlt hyes hs⟩
  · have hy : l.all shortOf = true := all_true fun j e hj => hyes j e (by have := (List.getElem?_eq_some_iff.1 hj).1; omega) hj
    simp [go_sem, h0, h3, hlt]
    refine PostR.ret ?_
    simp only [allShortOf, hy, g']
    simp [go_sem]
set_option maxRecDepth 8000 in
set_option maxHeartbeats 4000000 in
theorem copiedS_ac (s : List EntD) (hn : s.length ≤ 100000) : AC Try.prog 14 [ents s] (ents s) := by
  refine AC.of_body Try.func14 rfl rfl Try.ntmps14 (congrArg Array.toList Try.results14) (by simp) (pures1 (pure_ents _)) (pureR_ents _) fun w S' => AWp.of_vc [6] ?_
  have hw : IntKind.i64.wrap ((s.length : Int) + 2) = (s.length : Int) + 2 := wrap_i64 (by omega) (by omega)
  have t1 : (0 : Int) ≤ (s.length : Int) + 2 := by omega
  have t2 : ((s.length : Int) + 2).toNat = s.length + 2 := by omega
  simp [go_sem, hw, t1, t2]
  refine ⟨⟨by omega, by omega⟩, ⟨by omega, by omega⟩, ?_⟩
  refine PostR.retW [6] ?_ (.refl _)
  simp [go_sem]
def exA : List EntD := [⟨1, [], 5⟩, ⟨2, [64, 117, 58, 115], 7⟩]
def exB : List EntD := [⟨1, [], 5⟩, ⟨2, [64, 117, 58, 115], 9⟩]
def exE : Evt := { evZ with id := 4, kind := 7 }
theorem ex_split : sameO (allOf [exA, exB]) [exA, exB] 2 = [⟨1, [], 5⟩] ∧ sortedL (idsO (allOf [exA, exB]) [exA, exB] 2) = [7, 9] := by decide
theorem ex_diff : diffOf exA exB = [⟨2, [64, 117, 58, 115], 9⟩] := by decide
theorem ex_set : setOf exA 2 [64, 116, 58, 115] 8 = [⟨1, [], 5⟩, ⟨2, [64, 116, 58, 115], 8⟩, ⟨2, [64, 117, 58, 115], 7⟩] := by decide
theorem ex_get : getOf exA 2 [64, 117, 58, 115] = some 7 := by decide
theorem ex_of : ofOf [exE] = [⟨7, [], 4⟩] := by decide
theorem ex_ev : eventsOf [exE] [⟨7, [], 4⟩] = [exE] := by rfl
theorem ex_check : checkOf exB = 0 := by decide
set_option maxRecDepth 8000 in
set_option maxHeartbeats 4000000 in
theorem lives_ac  : AC Try.prog 10 [] (B true) := by
  refine AC.of_body Try.func10 rfl rfl Try.ntmps10 (congrArg Array.toList Try.results10) (by simp) (pures0) (pure_B _) fun w S' => AWp.of_vc [] ?_
  simp [go_sem]
  refine CallSem.pure (split_ac [exA, exB] (by decide) (by decide)) (by simp [go_sem]) ?_
  simp only [splitAV]
  rw [show ([exA, exB] : List (List EntD)).length = 2 from rfl, ex_split.1, ex_split.2]
  simp [go_sem]
  refine CallSem.pure (diff_ac exA exB (by decide)) (by simp [go_sem]) ?_
  rw [ex_diff]
  simp [go_sem]
  refine CallSem.pure (set_ac exA 2 [64, 116, 58, 115] 8 (by decide)) (by simp [go_sem]) ?_
  rw [ex_set]
  simp [go_sem]
  refine CallSem.pure (get_ac exA 2 [64, 117, 58, 115]) (by simp [go_sem]) ?_
  rw [ex_get]
  simp [go_sem]
  refine CallSem.by (of_ac [exE] (by decide)) ⟨wk_evsL [exE], trivial⟩ (by simp [go_sem]) ?_
  rw [ex_of]
  simp [go_sem]
  refine CallSem.by (events_ac [exE] [⟨7, [], 4⟩] (by decide)) ⟨wk_evsL [exE], .refl _, trivial⟩ (by simp [go_sem]) ?_
  rw [ex_ev]
  simp [go_sem]
  refine CallSem.pure (check_ac exB) (by simp [go_sem]) ?_
  rw [ex_check]
  simp [go_sem]
  refine CallSem.pure (same_ac [7, 9] [7, 9]) (by simp [go_sem]) ?_
  simp [go_sem]
  refine CallSem.pure (ssame_ac exA exA) (by simp [go_sem]) ?_
  simp [go_sem]
  refine PostR.ret ?_
  simp [go_sem]
end Go.Proofs.Ytlhaopapeggefaa
