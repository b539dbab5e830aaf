/- Several texts of the proof in one: R1, R2, R3. No condition. -/
import Derived.Test.YtckoolpjphhfdaaKd
set_option linter.unusedSimpArgs false
set_option linter.unusedVariables false
-- part R1
namespace Go.Proofs.Ytckoolpjphhfdaa
open Go Go.Abs
set_option linter.unusedSimpArgs false
set_option linter.unusedVariables false
/-- An event's relation, and to what. -/
def relE (e : Evt) : Int × Int :=
  if e.content.target ≤ 0 then (0, 0) else if e.kind = 12 then (4, e.content.target) else if e.kind = 13 then (3, e.content.target) else if e.kind = 11 then (if e.content.thread = true then (2, e.content.target) else (1, e.content.target)) else (0, 0)
def relAV (e : Evt) : AV := .agg [I (relE e).1, I (relE e).2]
theorem pure_relAV (e : Evt) : Pure (relAV e) := pure_agg fun c hc => by
  simp only [List.mem_cons, List.not_mem_nil, or_false] at hc; rcases hc with rfl | rfl <;> exact pure_v _
attribute [go_sem] relAV
theorem pureR_two (a b : Int) : PureR (.tup [I a, I b]) := by
  intro r hr
  simp only [List.mem_cons, List.not_mem_nil, or_false] at hr
  rcases hr with rfl | rfl <;> exact pure_I _
set_option maxRecDepth 8000 in
set_option maxHeartbeats 4000000 in
theorem rel_ac (e : Evt) : AC Try.prog 26 [ev e] (relAV e) := by
  refine AC.of_body Try.func26 rfl rfl Try.ntmps26 (congrArg Array.toList Try.results26) (by simp) (pures1 (pure_ev _)) (pure_relAV _) fun w S' => AWp.of_vc [] ?_
  unfold relAV relE
  simp [go_sem]
  by_cases h0 : e.content.target ≤ 0
  · simp [go_sem, h0]
    refine PostR.ret ?_
    simp [go_sem]
  by_cases h1 : e.kind = 12
  · simp [go_sem, h0, h1]
    refine PostR.ret ?_
    simp [go_sem]
  by_cases h2 : e.kind = 13
  · simp [go_sem, h0, h1, h2]
    refine PostR.ret ?_
    simp [go_sem]
  by_cases h3 : e.kind = 11
  · cases h4 : e.content.thread with
    | true =>
      simp [go_sem, h0, h1, h2, h3, h4]
      refine PostR.ret ?_
      simp [go_sem]
    | false =>
      simp [go_sem, h0, h1, h2, h3, h4]
      refine PostR.ret ?_
      simp [go_sem]
  · simp [go_sem, h0, h1, h2, h3]
    refine PostR.ret ?_
    simp [go_sem]

set_option maxRecDepth 8000 in
set_option maxHeartbeats 4000000 in
theorem relOf_ac (e : Evt) : AC Try.prog 10 [ev e] (.tup [I (relE e).1, I (relE e).2]) := by
  refine AC.of_body Try.func10 rfl rfl Try.ntmps10 (congrArg Array.toList Try.results10) (by simp) (pures1 (pure_ev _)) (pureR_two _ _) fun w S' => AWp.of_vc [] ?_
  simp [go_sem]
  refine CallSem.pure (rel_ac e) (by simp [go_sem]) ?_
  simp [go_sem]
  refine AWp.drawAll rfl (by kernel_rfl) ?_
  simp [go_sem]
  refine PostR.ret ?_
  simp [go_sem]

set_option maxRecDepth 8000 in
set_option maxHeartbeats 4000000 in
theorem rrel_ac (e : Evt) : AC Try.prog 11 [ev e] (.tup [I (relE e).1, I (relE e).2]) := by
  refine AC.of_body Try.func11 rfl rfl Try.ntmps11 (congrArg Array.toList Try.results11) (by simp) (pures1 (pure_ev _)) (pureR_two _ _) fun w S' => AWp.of_vc [] ?_
  unfold relE
  simp [go_sem]
  by_cases h0 : e.content.target ≤ 0
  · simp [go_sem, h0]
    refine PostR.ret ?_
    simp [go_sem]
  by_cases h1 : e.kind = 12
  · simp [go_sem, h0, h1]
    refine AWp.drawAll rfl (by kernel_rfl) ?_
    simp [go_sem, h0, h1]
    refine PostR.ret ?_
    simp [go_sem]
  by_cases h2 : e.kind = 13
  · simp [go_sem, h0, h1, h2]
    refine AWp.drawAll rfl (by kernel_rfl) ?_
    simp [go_sem, h0, h1, h2]
    refine PostR.ret ?_
    simp [go_sem]
  by_cases h3 : e.kind = 11
  · cases h4 : e.content.thread with
    | true =>
      simp [go_sem, h0, h1, h2, h3, h4]
      refine AWp.drawAll rfl (by kernel_rfl) ?_
      simp [go_sem, h0, h1, h2, h3, h4]
      refine PostR.ret ?_
      simp [go_sem]
    | false =>
      simp [go_sem, h0, h1, h2, h3, h4]
      refine AWp.drawAll rfl (by kernel_rfl) ?_
      simp [go_sem, h0, h1, h2, h3, h4]
      refine PostR.ret ?_
      simp [go_sem]
  · simp [go_sem, h0, h1, h2, h3]
    refine PostR.ret ?_
    simp [go_sem]

end Go.Proofs.Ytckoolpjphhfdaa

-- part R2
namespace Go.Proofs.Ytckoolpjphhfdaa
open Go Go.Abs
set_option linter.unusedSimpArgs false
set_option linter.unusedVariables false
set_option maxRecDepth 8000 in
set_option maxHeartbeats 4000000 in
theorem findC_ac (e : Evt) (id : Int) : AC Try.prog 41 [ev e, .eptr [I id] 0] (B (e.id == id)) := by
  refine AC.of_body Try.func41 rfl rfl Try.ntmps41 (congrArg Array.toList Try.results41) (by simp) (pures2 (pure_ev _) (pure_eptr fun c h => by simp only [List.mem_singleton] at h; subst h; exact pure_I _)) (pure_B _) fun w S' => AWp.of_vc [] ?_
  simp [go_sem]
  refine PostR.ret ?_
  simp [go_sem]

set_option maxRecDepth 8000 in
set_option maxHeartbeats 4000000 in
theorem find_ac (l : List Evt) (id : Int) : AC Try.prog 29 [evs l, I id] (optE (getE l id)) := by
  refine AC.of_body Try.func29 rfl rfl Try.ntmps29 (congrArg Array.toList Try.results29) (by simp) (pures2 (pure_evs _) (pure_I _)) (pureR_optE _) fun w S' => AWp.of_vc [] ?_
  simp [go_sem]
  refine CallSem.pure (indexFunc_gen 41 [.eptr [I id] 0] (fun e => e.id == id) (fun e => findC_ac e id) (fun c h => by simp only [List.mem_singleton] at h; subst h; exact pure_eptr fun c h => by simp only [List.mem_singleton] at h; subst h; exact pure_I _) l) (by simp [go_sem]) ?_
  rcases idxI_find (fun e : Evt => e.id == id) l with ⟨hf, hi⟩ | ⟨k, hk, hf, hi⟩
  · simp [go_sem, hi]
    refine PostR.retW [] (r0 := .tup [.agg evZc, B false]) (by simp [go_sem, evZc]) ?_
    have : getE l id = none := hf
    rw [this]
    exact .tup ⟨.one (.agg wk_evZ), .refl _, trivial⟩
  · have hneg : ¬ ((k : Int) < 0) := by omega
    simp [go_sem, hi, hneg, hk]
    refine PostR.ret ?_
    have : getE l id = some l[k] := hf
    simp [go_sem, this]

/-- The first event with an id above 0. -/
def rget (l : List Evt) (id : Int) : Option Evt := if 0 < id then getE l id else none
theorem getE_miss {l : List Evt} {id : Int} (h : ∀ (j : Nat) e, l[j]? = some e → e.id ≠ id) : getE l id = none := by
  unfold getE
  rw [List.find?_eq_none]
  intro e he
  obtain ⟨j, hj⟩ := List.mem_iff_getElem?.1 he
  simpa using h j e hj
theorem getE_hit {l : List Evt} {k : Nat} {id : Int} (hk : k < l.length) (hp : l[k].id = id) (hno : ∀ (j : Nat) e, j < k → l[j]? = some e → e.id ≠ id) : getE l id = some l[k] := by
  unfold getE
  rw [List.find?_eq_some_iff_getElem]
  exact ⟨by simpa using hp, k, hk, rfl, fun j hj => by have := hno j _ hj (List.getElem?_eq_getElem (by omega)); simpa using this⟩
set_option maxRecDepth 8000 in
set_option maxHeartbeats 4000000 in
theorem rget36_ac (l : List Evt) (id : Int) : AC Try.prog 25 [evs l, I id] (optE (rget l id)) := by
  refine AC.of_body Try.func25 rfl rfl Try.ntmps25 (congrArg Array.toList Try.results25) (by simp) (pures2 (pure_evs _) (pure_I _)) (pureR_optE _) fun w S' => AWp.bound 0 rfl fun hlen => AWp.of_vc [] ?_
  rw [evs_len] at hlen
  unfold rget
  by_cases hp : 0 < id
  · rw [if_pos hp]
    simp [go_sem]
    refine AWp.loop_vc [] (fun m s => ∃ k : Nat, k ≤ l.length ∧ m = l.length - k ∧ s.σ 0 = evs l ∧ s.σ 1 = I id ∧ s.σ 6 = I k ∧ s.σ 4 = .rptr 4 1 0 0 ∧ s.ver 4 = 1 ∧ s.h 4 = .box evZc ∧ ∀ (j : Nat) e, j < k → l[j]? = some e → e.id ≠ id) l.length ⟨0, by simp [go_sem, evZc]⟩ ?_
    rintro m s ⟨k, hk, rfl, h0, h1, h6, h4, hv4, hh4, hno⟩
    by_cases hlt : k < l.length
    · by_cases he : l[k].id = id
      · simp [go_sem, evZc, h0, h1, h6, h4, hv4, hh4, hlt, hp, he]
        refine PostR.ret ?_
        rw [getE_hit hlt he hno]
        simp [go_sem, h4, hv4, hh4]
      · simp [go_sem, evZc, h0, h1, h6, h4, hv4, hh4, hlt, hp, he, wrap_succ hlt hlen]
        refine ⟨l.length - (k + 1), by omega, k + 1, by omega, rfl, rfl, fun j e hj hje => ?_⟩
        rcases Nat.lt_succ_iff_lt_or_eq.1 hj with hj | rfl
        · exact hno j e hj hje
        · rw [List.getElem?_eq_getElem hlt] at hje; cases hje; exact he
    · simp [go_sem, evZc, h0, h1, h6, h4, hv4, hh4, hlt]
      refine PostR.retW [] (r0 := .tup [.agg evZc, B false]) (by simp [go_sem, evZc, h4, hv4, hh4]) ?_
      rw [getE_miss fun j e hj => hno j e (by have := (List.getElem?_eq_some_iff.1 hj).1; omega) hj]
      exact .tup ⟨.one (.agg wk_evZ), .refl _, trivial⟩
  · rw [if_neg hp]
    simp [go_sem]
    refine AWp.loop_vc [] (fun m s => ∃ k : Nat, k ≤ l.length ∧ m = l.length - k ∧ s.σ 0 = evs l ∧ s.σ 1 = I id ∧ s.σ 6 = I k ∧ s.σ 4 = .rptr 4 1 0 0 ∧ s.ver 4 = 1 ∧ s.h 4 = .box evZc) l.length ⟨0, by simp [go_sem, evZc]⟩ ?_
    rintro m s ⟨k, hk, rfl, h0, h1, h6, h4, hv4, hh4⟩
    by_cases hlt : k < l.length
    · simp [go_sem, evZc, h0, h1, h6, h4, hv4, hh4, hlt, hp, wrap_succ hlt hlen]
      exact ⟨l.length - (k + 1), by omega, k + 1, by omega, rfl, rfl⟩
    · simp [go_sem, evZc, h0, h1, h6, h4, hv4, hh4, hlt]
      refine PostR.retW [] (r0 := .tup [.agg evZc, B false]) (by simp [go_sem, evZc, h4, hv4, hh4]) ?_
      exact .tup ⟨.one (.agg wk_evZ), .refl _, trivial⟩

end Go.Proofs.Ytckoolpjphhfdaa

-- part R3
namespace Go.Proofs.Ytckoolpjphhfdaa
open Go Go.Abs
set_option linter.unusedSimpArgs false
set_option linter.unusedVariables false
def isNew (l : List Evt) (k : Nat) (e : Evt) : Bool := decide (0 < e.id) && (getE (l.take k) e.id).isNone
def onceU (l : List Evt) : Nat → List Evt
  | 0 => []
  | k + 1 => match l[k]? with
    | some e => if isNew l k e = true then onceU l k ++ [e] else onceU l k
    | none => onceU l k
def onceL (l : List Evt) : List Evt := onceU l l.length
theorem onceU_len (l : List Evt) : ∀ k, (onceU l k).length ≤ k
  | 0 => Nat.le_refl _
  | k + 1 => by
    have := onceU_len l k
    rw [onceU]
    split
    · split
      · rw [List.length_append]; simp; exact this
      · omega
    · omega
theorem onceU_new {l : List Evt} {k : Nat} (hk : k < l.length) (h : isNew l k l[k] = true) : onceU l (k + 1) = onceU l k ++ [l[k]] := by rw [onceU, List.getElem?_eq_getElem hk]; simp [h]
theorem onceU_old {l : List Evt} {k : Nat} (hk : k < l.length) (h : isNew l k l[k] = false) : onceU l (k + 1) = onceU l k := by rw [onceU, List.getElem?_eq_getElem hk]; simp [h]
theorem rget36_take (l : List Evt) (k : Nat) (id : Int) : AC Try.prog 25 [.lst 29 ((l.map ev).take k), I id] (optE (rget (l.take k) id)) := by
  rw [← List.map_take]; exact rget36_ac (l.take k) id
set_option maxRecDepth 8000 in
set_option maxHeartbeats 4000000 in
theorem once_ac (l : List Evt) (hsz : l.length ≤ 100000) : AC Try.prog 36 [evs l] (evs (onceL l)) := by
  refine AC.of_body Try.func36 rfl rfl Try.ntmps36 (congrArg Array.toList Try.results36) (by simp) (pures1 (pure_evs _)) (pure_evs _) fun w S' => AWp.of_vc [7] ?_
  have hm : l.length ≤ maxLen := by unfold maxLen; omega
  have hinj : ∀ d d' : Nat, d ≠ d' → d ≠ d' := fun _ _ h => h
  simp [go_sem]
  refine AWp.loop_vc [] (fun m s => ∃ k v : Nat, k ≤ l.length ∧ m = l.length - k ∧ s.σ 0 = evs l ∧ s.σ 4 = I k ∧ s.σ 3 = .ref 7 v ∧ s.ver 7 = v ∧ s.h 7 = .arr 34 29 ((onceU l k).map ev)) l.length ⟨0, by simp [go_sem, onceU]⟩ ?_
  rintro m s ⟨k, v, hk, rfl, h0, h4, h3, hv3, hh3⟩
  have hol := onceU_len l k
  by_cases hlt : k < l.length
  · have hkm : (k : Int) ≤ l.length := by omega
    simp [go_sem, h0, h4, h3, hv3, hh3, hlt]
    refine AWp.drawText [] [5] [] [] rfl (by kernel_rfl) hinj ?_
    simp [go_sem, h0, h4, h3, hv3, hh3, hlt, hk]
    refine CalmThen.pure (rget36_take l k l[k].id) rfl ?_
    unfold rget
    by_cases hp : 0 < l[k].id
    · rw [if_pos hp]
      cases hg : getE (l.take k) l[k].id with
      | none =>
        have hn := onceU_new hlt (show isNew l k l[k] = true by unfold isNew; rw [hg]; simp [hp])
        simp [go_sem, h0, h4, h3, hv3, hh3, hlt, hp, wrap_succ hlt hm]
        exact ⟨⟨by omega, by omega⟩, l.length - (k + 1), by omega, k + 1, by omega, rfl, rfl, by rw [hn]; simp; rfl⟩
      | some x =>
        have hn := onceU_old hlt (show isNew l k l[k] = false by unfold isNew; rw [hg]; simp)
        simp [go_sem, h0, h4, h3, hv3, hh3, hlt, hp, wrap_succ hlt hm]
        exact ⟨l.length - (k + 1), by omega, k + 1, by omega, rfl, rfl, by rw [hn]⟩
    · rw [if_neg hp]
      have hn := onceU_old hlt (show isNew l k l[k] = false by unfold isNew; simp [hp])
      simp [go_sem, h0, h4, h3, hv3, hh3, hlt, hp, wrap_succ hlt hm]
      exact ⟨l.length - (k + 1), by omega, k + 1, by omega, rfl, rfl, by rw [hn]⟩
  · obtain rfl : k = l.length := by omega
    simp [go_sem, h0, h4, h3, hv3, hh3]
    refine PostR.retW [7] ?_ (.refl _)
    simp [go_sem, h0, h4, h3, hv3, hh3, onceL]

/-- What the map of the program's known holds. -/
def SeenM (l : List Evt) (k : Nat) (fs : Array MapEntry) : Prop := intM fs = true ∧ ∀ n, mget fs n = if 0 < n ∧ (getE (l.take k) n).isSome = true then some (.bool true) else none
theorem SeenM.zero (l : List Evt) : SeenM l 0 #[] := ⟨rfl, fun n => by simp [getE]; rfl⟩
theorem take_get {l : List Evt} {k : Nat} (hk : k < l.length) (n : Int) : (getE (l.take (k + 1)) n).isSome = ((getE (l.take k) n).isSome || l[k].id == n) := by
  unfold getE
  rw [List.take_succ_eq_append_getElem hk, List.find?_append]
  cases h : (l.take k).find? (fun e => e.id == n) with
  | some x => rfl
  | none => simp [List.find?_cons]; cases l[k].id == n <;> rfl
theorem SeenM.old {l : List Evt} {k : Nat} {fs : Array MapEntry} (hk : k < l.length) (h : SeenM l k fs) (hn : isNew l k l[k] = false) : SeenM l (k + 1) fs := by
  refine ⟨h.1, fun n => ?_⟩
  rw [h.2 n, take_get hk]
  unfold isNew at hn
  by_cases he : l[k].id = n
  · subst he
    by_cases hp : 0 < l[k].id
    · simp [hp] at hn
      cases hg : getE (l.take k) l[k].id with
      | none => rw [hg] at hn; simp at hn
      | some x => simp [hp]
    · simp [hp]
  · have : (l[k].id == n) = false := by simpa using he
    rw [this, Bool.or_false]
theorem SeenM.new {l : List Evt} {k clk : Nat} {fs : Array MapEntry} (hk : k < l.length) (h : SeenM l k fs) (hn : isNew l k l[k] = true) : SeenM l (k + 1) (mput fs clk l[k].id (.bool true)).1 := by
  refine ⟨q_mput_int _ _ _ _ h.1, fun n => ?_⟩
  rw [q_mput_get, h.2 n, take_get hk]
  unfold isNew at hn
  rw [Bool.and_eq_true, decide_eq_true_eq] at hn
  by_cases he : l[k].id = n
  · subst he
    rw [if_pos rfl, if_pos ⟨hn.1, by simp⟩]
  · rw [if_neg he]
    have : (l[k].id == n) = false := by simpa using he
    rw [this, Bool.or_false]
set_option maxRecDepth 8000 in
set_option maxHeartbeats 4000000 in
theorem known_ac (l : List Evt) (hsz : l.length ≤ 100000) : AC Try.prog 28 [evs l] (evs (onceL l)) := by
  refine AC.of_body Try.func28 rfl rfl Try.ntmps28 (congrArg Array.toList Try.results28) (by simp) (pures1 (pure_evs _)) (pure_evs _) fun w S' => AWp.of_vc [] ?_
  have hm : l.length ≤ maxLen := by unfold maxLen; omega
  simp [go_sem]
  refine AWp.ownNil 4 34 29 (by simp [go_sem]) ?_
  refine AWp.loop_vc [] (fun m s => ∃ (k v u c : Nat) (fs : Array MapEntry), k ≤ l.length ∧ m = l.length - k ∧ s.σ 8 = evs l ∧ s.σ 9 = I l.length ∧ s.σ 10 = I k ∧ s.σ 4 = .ref 4 v ∧ s.ver 4 = v ∧ s.h 4 = .arr 34 29 ((onceU l k).map ev) ∧ s.σ 3 = .ref 7 u ∧ s.ver 7 = u ∧ s.h 7 = .map fs c ∧ SeenM l k fs) l.length ⟨0, 1, 1, 0, #[], by simp [go_sem, onceU, SeenM.zero]⟩ ?_
  rintro m s ⟨k, v, u, c, fs, hk, rfl, h8, h9, h10, h4, hv4, hh4, h3, hv3, hh3, hM⟩
  have hol := onceU_len l k
  by_cases hlt : k < l.length
  · have hi := hM.1
    have hg := hM.2 l[k].id
    cases hn : isNew l k l[k] with
    | true =>
      have hon := onceU_new hlt hn
      have hM2 := hM.new (clk := c) hlt hn
      unfold isNew at hn
      rw [Bool.and_eq_true, decide_eq_true_eq] at hn
      have hp := hn.1
      have hnone : mget fs l[k].id = none := by rw [hg, if_neg]; intro h; have := hn.2; rw [Option.isNone_iff_eq_none] at this; rw [this] at h; simp at h
      simp [go_sem, h8, h9, h10, h4, hv4, hh4, h3, hv3, hh3, hlt, hp, hi, hnone, wrap_succ hlt hm]
      exact ⟨⟨by omega, by omega⟩, l.length - (k + 1), by omega, k + 1, by omega, rfl, rfl, by rw [hon]; simp; rfl, _, _, ⟨rfl, rfl⟩, hM2⟩
    | false =>
      have hon := onceU_old hlt hn
      have hM2 := hM.old hlt hn
      unfold isNew at hn
      by_cases hp : 0 < l[k].id
      · have hsome : mget fs l[k].id = some (.bool true) := by
          have hs : (getE (l.take k) l[k].id).isSome = true := by
            cases hx : getE (l.take k) l[k].id with
            | none => rw [hx] at hn; simp [hp] at hn
            | some x => rfl
          rw [hg, if_pos ⟨hp, hs⟩]
        simp [go_sem, h8, h9, h10, h4, hv4, hh4, h3, hv3, hh3, hlt, hp, hi, hsome, wrap_succ hlt hm]
        exact ⟨l.length - (k + 1), by omega, k + 1, by omega, rfl, rfl, by rw [hon], _, _, ⟨rfl, rfl⟩, hM2⟩
      · simp [go_sem, h8, h9, h10, h4, hv4, hh4, h3, hv3, hh3, hlt, hp, hi, wrap_succ hlt hm]
        exact ⟨l.length - (k + 1), by omega, k + 1, by omega, rfl, rfl, by rw [hon], _, _, ⟨rfl, rfl⟩, hM2⟩
  · obtain rfl : k = l.length := by omega
    simp [go_sem, h8, h9, h10, h4, hv4, hh4]
    refine PostR.retW [4] ?_ (.refl _)
    simp [go_sem, h4, hv4, hh4, onceL]

end Go.Proofs.Ytckoolpjphhfdaa
