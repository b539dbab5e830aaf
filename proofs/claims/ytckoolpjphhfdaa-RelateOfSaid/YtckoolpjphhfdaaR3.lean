/- Contracts of chapter 36: the first event of each id, what is related, the latest. No condition. -/
import Derived.Test.YtckoolpjphhfdaaR2
namespace Go.Proofs.Ytckoolpjphhfdaa
open Go Go.Abs
set_option linter.unusedSimpArgs false
set_option linter.unusedVariables false
def isNew (l : List Evt) (k : Nat) (e : Evt) : Bool := decide (0 < e.id) && (getE (l.take k) e.id).isNone
def onceU (l : List Evt) : Nat → List Evt
  | 0 => []
  | k + 1 => match l[k]? with
    | some e => if isNew l k e = true then onceU l k ++ [e] else onceU l k
    | none => onceU l k
def onceL (l : List Evt) : List Evt := onceU l l.length
theorem onceU_len (l : List Evt) : ∀ k, (onceU l k).length ≤ k
  | 0 => Nat.le_refl _
  | k + 1 => by
    have := onceU_len l k
    rw [onceU]
    split
    · split
      · rw [List.length_append]; simp; exact this
      · omega
    · omega
theorem onceU_new {l : List Evt} {k : Nat} (hk : k < l.length) (h : isNew l k l[k] = true) : onceU l (k + 1) = onceU l k ++ [l[k]] := by rw [onceU, List.getElem?_eq_getElem hk]; simp [h]
theorem onceU_old {l : List Evt} {k : Nat} (hk : k < l.length) (h : isNew l k l[k] = false) : onceU l (k + 1) = onceU l k := by rw [onceU, List.getElem?_eq_getElem hk]; simp [h]
theorem rget36_take (l : List Evt) (k : Nat) (id : Int) : AC Try.prog 25 [.lst 29 ((l.map ev).take k), I id] (optE (rget (l.take k) id)) := by
  rw [← List.map_take]; exact rget36_ac (l.take k) id
set_option maxRecDepth 8000 in
set_option maxHeartbeats 4000000 in
theorem once_ac (l : List Evt) (hsz : l.length ≤ 100000) : AC Try.prog 36 [evs l] (evs (onceL l)) := by
  refine AC.of_body Try.func36 rfl rfl Try.ntmps36 (congrArg Array.toList Try.results36) (by simp) (pures1 (pure_evs _)) (pure_evs _) fun w S' => AWp.of_vc [7] ?_
  have hm : l.length ≤ maxLen := by unfold maxLen; omega
  have hinj : ∀ d d' : Nat, d ≠ d' → d ≠ d' := fun _ _ h => h
  simp [go_sem]
  refine AWp.loop_vc [] (fun m s => ∃ k v : Nat, k ≤ l.length ∧ m = l.length - k ∧ s.σ 0 = evs l ∧ s.σ 4 = I k ∧ s.σ 3 = .ref 7 v ∧ s.ver 7 = v ∧ s.h 7 = .arr 34 29 ((onceU l k).map ev)) l.length ⟨0, by simp [go_sem, onceU]⟩ ?_
  rintro m s ⟨k, v, hk, rfl, h0, h4, h3, hv3, hh3⟩
  have hol := onceU_len l k
  by_cases hlt : k < l.length
  · have hkm : (k : Int) ≤ l.length := by omega
    simp [go_sem, h0, h4, h3, hv3, hh3, hlt]
    refine AWp.drawText [] [5] [] [] rfl (by kernel_rfl) hinj ?_
    simp [go_sem, h0, h4, h3, hv3, hh3, hlt, hk]
    refine CalmThen.pure (rget36_take l k l[k].id) rfl ?_
    unfold rget
    by_cases hp : 0 < l[k].id
    · rw [if_pos hp]
      cases hg : getE (l.take k) l[k].id with
      | none =>
        have hn := onceU_new hlt (show isNew l k l[k] = true by unfold isNew; rw [hg]; simp [hp])
        simp [go_sem, h0, h4, h3, hv3, hh3, hlt, hp, wrap_succ hlt hm]
        exact ⟨⟨by omega, by omega⟩, l.length - (k + 1), by omega, k + 1, by omega, rfl, rfl, by rw [hn]; simp; rfl⟩
      | some x =>
        have hn := onceU_old hlt (show isNew l k l[k] = false by unfold isNew; rw [hg]; simp)
        simp [go_sem, h0, h4, h3, hv3, hh3, hlt, hp, wrap_succ hlt hm]
        exact ⟨l.length - (k + 1), by omega, k + 1, by omega, rfl, rfl, by rw [hn]⟩
    · rw [if_neg hp]
      have hn := onceU_old hlt (show isNew l k l[k] = false by unfold isNew; simp [hp])
      simp [go_sem, h0, h4, h3, hv3, hh3, hlt, hp, wrap_succ hlt hm]
      exact ⟨l.length - (k + 1), by omega, k + 1, by omega, rfl, rfl, by rw [hn]⟩
  · obtain rfl : k = l.length := by omega
    simp [go_sem, h0, h4, h3, hv3, hh3]
    refine PostR.retW [7] ?_ (.refl _)
    simp [go_sem, h0, h4, h3, hv3, hh3, onceL]

/-- What the map of the program's known holds. -/
def SeenM (l : List Evt) (k : Nat) (fs : Array MapEntry) : Prop := intM fs = true ∧ ∀ n, mget fs n = if 0 < n ∧ (getE (l.take k) n).isSome = true then some (.bool true) else none
theorem SeenM.zero (l : List Evt) : SeenM l 0 #[] := ⟨rfl, fun n => by simp [getE]; rfl⟩
theorem take_get {l : List Evt} {k : Nat} (hk : k < l.length) (n : Int) : (getE (l.take (k + 1)) n).isSome = ((getE (l.take k) n).isSome || l[k].id == n) := by
  unfold getE
  rw [List.take_succ_eq_append_getElem hk, List.find?_append]
  cases h : (l.take k).find? (fun e => e.id == n) with
  | some x => rfl
  | none => simp [List.find?_cons]; cases l[k].id == n <;> rfl
theorem SeenM.old {l : List Evt} {k : Nat} {fs : Array MapEntry} (hk : k < l.length) (h : SeenM l k fs) (hn : isNew l k l[k] = false) : SeenM l (k + 1) fs := by
  refine ⟨h.1, fun n => ?_⟩
  rw [h.2 n, take_get hk]
  unfold isNew at hn
  by_cases he : l[k].id = n
  · subst he
    by_cases hp : 0 < l[k].id
    · simp [hp] at hn
      cases hg : getE (l.take k) l[k].id with
      | none => rw [hg] at hn; simp at hn
      | some x => simp [hp]
    · simp [hp]
  · have : (l[k].id == n) = false := by simpa using he
    rw [this, Bool.or_false]
theorem SeenM.new {l : List Evt} {k clk : Nat} {fs : Array MapEntry} (hk : k < l.length) (h : SeenM l k fs) (hn : isNew l k l[k] = true) : SeenM l (k + 1) (mput fs clk l[k].id (.bool true)).1 := by
  refine ⟨q_mput_int _ _ _ _ h.1, fun n => ?_⟩
  rw [q_mput_get, h.2 n, take_get hk]
  unfold isNew at hn
  rw [Bool.and_eq_true, decide_eq_true_eq] at hn
  by_cases he : l[k].id = n
  · subst he
    rw [if_pos rfl, if_pos ⟨hn.1, by simp⟩]
  · rw [if_neg he]
    have : (l[k].id == n) = false := by simpa using he
    rw [this, Bool.or_false]
set_option maxRecDepth 8000 in
set_option maxHeartbeats 4000000 in
theorem known_ac (l : List Evt) (hsz : l.length ≤ 100000) : AC Try.prog 28 [evs l] (evs (onceL l)) := by
  refine AC.of_body Try.func28 rfl rfl Try.ntmps28 (congrArg Array.toList Try.results28) (by simp) (pures1 (pure_evs _)) (pure_evs _) fun w S' => AWp.of_vc [] ?_
  have hm : l.length ≤ maxLen := by unfold maxLen; omega
  simp [go_sem]
  refine AWp.ownNil 4 34 29 (by simp [go_sem]) ?_
  refine AWp.loop_vc [] (fun m s => ∃ (k v u c : Nat) (fs : Array MapEntry), k ≤ l.length ∧ m = l.length - k ∧ s.σ 8 = evs l ∧ s.σ 9 = I l.length ∧ s.σ 10 = I k ∧ s.σ 4 = .ref 4 v ∧ s.ver 4 = v ∧ s.h 4 = .arr 34 29 ((onceU l k).map ev) ∧ s.σ 3 = .ref 7 u ∧ s.ver 7 = u ∧ s.h 7 = .map fs c ∧ SeenM l k fs) l.length ⟨0, 1, 1, 0, #[], by simp [go_sem, onceU, SeenM.zero]⟩ ?_
  rintro m s ⟨k, v, u, c, fs, hk, rfl, h8, h9, h10, h4, hv4, hh4, h3, hv3, hh3, hM⟩
  have hol := onceU_len l k
  by_cases hlt : k < l.length
  · have hi := hM.1
    have hg := hM.2 l[k].id
    cases hn : isNew l k l[k] with
    | true =>
      have hon := onceU_new hlt hn
      have hM2 := hM.new (clk := c) hlt hn
      unfold isNew at hn
      rw [Bool.and_eq_true, decide_eq_true_eq] at hn
      have hp := hn.1
      have hnone : mget fs l[k].id = none := by rw [hg, if_neg]; intro h; have := hn.2; rw [Option.isNone_iff_eq_none] at this; rw [this] at h; simp at h
      simp [go_sem, h8, h9, h10, h4, hv4, hh4, h3, hv3, hh3, hlt, hp, hi, hnone, wrap_succ hlt hm]
      exact ⟨⟨by omega, by omega⟩, l.length - (k + 1), by omega, k + 1, by omega, rfl, rfl, by rw [hon]; simp; rfl, _, _, ⟨rfl, rfl⟩, hM2⟩
    | false =>
      have hon := onceU_old hlt hn
      have hM2 := hM.old hlt hn
      unfold isNew at hn
      by_cases hp : 0 < l[k].id
      · have hsome : mget fs l[k].id = some (.bool true) := by
          have hs : (getE (l.take k) l[k].id).isSome = true := by
            cases hx : getE (l.take k) l[k].id with
            | none => rw [hx] at hn; simp [hp] at hn
            | some x => rfl
          rw [hg, if_pos ⟨hp, hs⟩]
        simp [go_sem, h8, h9, h10, h4, hv4, hh4, h3, hv3, hh3, hlt, hp, hi, hsome, wrap_succ hlt hm]
        exact ⟨l.length - (k + 1), by omega, k + 1, by omega, rfl, rfl, by rw [hon], _, _, ⟨rfl, rfl⟩, hM2⟩
      · simp [go_sem, h8, h9, h10, h4, hv4, hh4, h3, hv3, hh3, hlt, hp, hi, wrap_succ hlt hm]
        exact ⟨l.length - (k + 1), by omega, k + 1, by omega, rfl, rfl, by rw [hon], _, _, ⟨rfl, rfl⟩, hM2⟩
  · obtain rfl : k = l.length := by omega
    simp [go_sem, h8, h9, h10, h4, hv4, hh4]
    refine PostR.retW [4] ?_ (.refl _)
    simp [go_sem, h4, hv4, hh4, onceL]

end Go.Proofs.Ytckoolpjphhfdaa
