/- Contracts of chapter 09: Heads, Roots. No condition. -/
import Derived.Test.YthlcncofhnkohaaG2
namespace Go.Proofs.Ythlcncofhnkohaa
open Go Go.Abs
set_option linter.unusedSimpArgs false
def belowAt (e : Evt) (n : Int) : List Int := e.prev.filter fun p => !(p == n)
def belowOf (l : List Evt) (ids : List Int) : List Int := ids.flatMap fun n => ((getE l n).map fun e => belowAt e n).getD []
def hasCr2 (l : List Int) (n : Int) : Bool := l.contains n
def headsOf (l : List Evt) (ids : List Int) : List Int := sortedSet (ids.filter fun n => !hasCr2 (belowOf l ids) n)
theorem belowOf_succ {l : List Evt} {ids : List Int} {k : Nat} (h : k < ids.length) : belowOf l (ids.take (k + 1)) = belowOf l (ids.take k) ++ ((getE l ids[k]).map fun e => belowAt e ids[k]).getD [] := by
  unfold belowOf
  rw [List.take_succ_eq_append_getElem h, List.flatMap_append]; simp
theorem belowAt_succ {e : Evt} {n : Int} {q : Nat} (h : q < e.prev.length) : ((e.prev.take (q + 1)).filter fun p => !(p == n)) = ((e.prev.take q).filter fun p => !(p == n)) ++ if e.prev[q] = n then [] else [e.prev[q]] := by
  rw [List.take_succ_eq_append_getElem h, List.filter_append]
  by_cases g : e.prev[q] = n <;> simp [g]
theorem FoundM.get {es : Array MapEntry} {L : List Int} (h : FoundM es L) (n : Int) : (mget es n).getD (.bool false) = .bool (hasCr2 L n) := by
  rw [h.2]
  unfold hasCr2
  by_cases g : n ∈ L
  · rw [if_pos g]; simp [g]
  · rw [if_neg g]; simp [g]
theorem filter_take3 (p : Int → Bool) (l : List Int) (k : Nat) (h : k < l.length) : (l.take (k + 1)).filter p = (l.take k).filter p ++ if p l[k] = true then [l[k]] else [] := by
  rw [List.take_succ_eq_append_getElem h, List.filter_append]
  cases g : p l[k] <;> simp [g]
set_option maxRecDepth 8000 in
set_option maxHeartbeats 4000000 in
theorem heads_ac (l : List Evt) (ids : List Int) (hl : Fit l) (hi : ids.length ≤ 1000000) : AC Try.prog 20 [evs l, ints ids] (ints (headsOf l ids)) := by
  refine AC.of_body Try.func20 rfl rfl Try.ntmps20 (congrArg Array.toList Try.results20) (by simp) (pures2 (pure_evs _) (pure_ints _)) (pureR_ints _) fun w S' => AWp.of_vc [] ?_
  have hm : ids.length ≤ maxLen := by unfold maxLen; omega
  simp [go_sem]
  refine CallSem.pure (index_ac l) (by simp [go_sem]) ?_
  simp [go_sem]
  refine AWp.loop_vc [] (fun m s => ∃ (k : Nat) (fs : Array MapEntry) (fc : Nat), m = ids.length - k ∧ k ≤ ids.length ∧ s.σ 0 = evs l ∧ s.σ 1 = ints ids ∧ s.σ 5 = idxAV l ∧ s.σ 6 = .ref 18 1 ∧ s.σ 19 = ints ids ∧ s.σ 20 = I ids.length ∧ s.σ 21 = I k ∧ s.ver 18 = 1 ∧ s.h 18 = .map fs fc ∧ FoundM fs (belowOf l (ids.take k))) ids.length ⟨0, #[], 0, by simp [go_sem]; exact FoundM.nil⟩ ?_
  rintro m s ⟨k, fs, fc, rfl, hk, h0, h1, h5, h6, h19, h20, h21, hv, hh, hF⟩
  by_cases hlt : k < ids.length
  · have hsu := belowOf_succ (l := l) hlt
    generalize belowOf l (ids.take k) = X at hF hsu
    rcases idx_get l ids[k] with ⟨hg, hm2⟩ | ⟨j, hj, hg, hm2⟩
    · rw [hg] at hsu
      simp [go_sem, h0, h1, h5, h6, h19, h20, h21, hv, hh, hlt, hm2, wrap_succ hlt hm]
      exact ⟨ids.length - (k + 1), by omega, k + 1, rfl, by omega, rfl, by rw [hsu]; simpa using hF⟩
    · rw [hg] at hsu
      have h40 := hl.prev l[j] (List.getElem_mem hj)
      have hpm : l[j].prev.length ≤ maxLen := by unfold maxLen; omega
      generalize hE : l[j] = e at h40 hsu hpm
      have hE' : l[j]? = some e := by rw [List.getElem?_eq_getElem hj, hE]
      generalize hn : ids[k] = n at hsu hm2
      simp [go_sem, h0, h1, h5, h6, h19, h20, h21, hv, hh, hlt, hj, hm2, hn, hE, hE']
      refine AWp.loop_vc [] (fun m s => ∃ (q : Nat) (fs : Array MapEntry) (fc : Nat), m = e.prev.length - q ∧ q ≤ e.prev.length ∧ s.σ 0 = evs l ∧ s.σ 1 = ints ids ∧ s.σ 5 = idxAV l ∧ s.σ 6 = .ref 18 1 ∧ s.σ 8 = I n ∧ s.σ 19 = ints ids ∧ s.σ 20 = I ids.length ∧ s.σ 21 = I k ∧ s.σ 37 = ints e.prev ∧ s.σ 38 = I e.prev.length ∧ s.σ 39 = I q ∧ s.ver 18 = 1 ∧ s.h 18 = .map fs fc ∧ FoundM fs (X ++ (e.prev.take q).filter fun p => !(p == n))) e.prev.length ⟨0, fs, fc, by simp [go_sem, h0, h1, h5, h6, h19, h20, h21, hv, hh, hF]⟩ ?_
      clear h0 h1 h5 h6 h19 h20 h21 hv hh hF
      rintro m s ⟨q, fs, fc, rfl, hq, h0, h1, h5, h6, h8, h19, h20, h21, h37, h38, h39, hv, hh, hF⟩
      by_cases hlq : q < e.prev.length
      · have hsq := belowAt_succ (n := n) hlq
        have hf1 := hF.1
        generalize (e.prev.take q).filter (fun p => !(p == n)) = Y at hF hsq
        by_cases g : e.prev[q] = n
        · rw [if_pos g] at hsq
          simp [go_sem, h0, h1, h5, h6, h8, h19, h20, h21, h37, h38, h39, hv, hh, hlq, g, wrap_succ hlq hpm]
          exact ⟨e.prev.length - (q + 1), by omega, q + 1, rfl, by omega, rfl, by rw [hsq]; simpa using hF⟩
        · rw [if_neg g] at hsq
          have hF' := hF.add fc e.prev[q]
          simp [go_sem, h0, h1, h5, h6, h8, h19, h20, h21, h37, h38, h39, hv, hh, hlq, g, hf1, wrap_succ hlq hpm]
          exact ⟨e.prev.length - (q + 1), by omega, q + 1, rfl, by omega, rfl, by rw [hsq, ← List.append_assoc]; exact hF'⟩
      · rw [List.take_of_length_le (by omega)] at hF
        simp [go_sem, h0, h1, h5, h6, h8, h19, h20, h21, h37, h38, h39, hv, hh, hlq, wrap_succ hlt hm]
        exact ⟨ids.length - (k + 1), by omega, k + 1, rfl, by omega, rfl, by rw [hsu]; exact hF⟩
  · rw [List.take_of_length_le (by omega)] at hF
    generalize hX : belowOf l ids = X at hF
    have hf1 := hF.1
    simp [go_sem, h0, h1, h5, h6, h19, h20, h21, hv, hh, hlt]
    refine AWp.ownNil 13 3 1 (by simp [go_sem]) ?_
    refine AWp.loop_vc [] (fun m s => ∃ (k v : Nat), m = ids.length - k ∧ k ≤ ids.length ∧ s.σ 6 = .ref 18 1 ∧ s.σ 50 = ints ids ∧ s.σ 51 = I ids.length ∧ s.σ 52 = I k ∧ s.ver 18 = 1 ∧ s.h 18 = .map fs fc ∧ s.σ 13 = .ref 13 v ∧ s.ver 13 = v ∧ s.h 13 = .arr 3 1 (((ids.take k).filter fun n => !hasCr2 X n).map I)) ids.length ⟨0, s.ver 13 + 1, by simp [go_sem, h1, h6, hv, hh]⟩ ?_
    clear h0 h1 h5 h6 h19 h20 h21 hv hh hlt hk k
    rintro m s ⟨k, v, rfl, hk, h6, h50, h51, h52, hv18, hh18, h13, hv, hh⟩
    by_cases hlt : k < ids.length
    · have hsu := filter_take3 (fun n => !hasCr2 X n) ids k hlt
      have hfl : ((ids.take k).filter fun n => !hasCr2 X n).length ≤ k := by
        have := List.length_filter_le (fun n => !hasCr2 X n) (ids.take k)
        rw [List.length_take] at this; omega
      generalize (ids.take k).filter (fun n => !hasCr2 X n) = Y at hh hsu hfl
      have hget := hF.get ids[k]
      cases hc : hasCr2 X ids[k] with
      | true =>
        rw [hc] at hget hsu
        simp [go_sem, h6, h50, h51, h52, hv18, hh18, h13, hv, hh, hlt, hf1, hget, wrap_succ hlt hm]
        exact ⟨ids.length - (k + 1), by omega, k + 1, rfl, by omega, rfl, by rw [hsu]; simp⟩
      | false =>
        rw [hc] at hget hsu
        simp [go_sem, h6, h50, h51, h52, hv18, hh18, h13, hv, hh, hlt, hf1, hget, wrap_succ hlt hm]
        exact ⟨⟨by omega, by omega⟩, ids.length - (k + 1), by omega, k + 1, rfl, by omega, rfl, by rw [hsu]; simp [I]⟩
    · rw [List.take_of_length_le (by omega)] at hh
      have hfl := List.length_filter_le (fun n => !hasCr2 X n) ids
      have hres : headsOf l ids = sortedSet (ids.filter fun n => !hasCr2 X n) := by unfold headsOf; rw [hX]
      generalize ids.filter (fun n => !hasCr2 X n) = Y at hh hfl hres
      simp [go_sem, h6, h50, h51, h52, hv18, hh18, h13, hv, hh, hlt]
      refine CallSem.freeze 13 ?_
      simp [go_sem, h6, h50, h51, h52, hv18, hh18, h13, hv, hh, hlt]
      refine CallSem.pure (numSorted_ac Y (by omega)) (by simp [go_sem]) ?_
      simp [go_sem]
      refine PostR.ret ?_
      simp [go_sem, hres]
def rootsOf (l : List Evt) : List Int := (l.filter fun e => e.prev.isEmpty).map (·.id)
theorem rootsOf_succ {l : List Evt} {k : Nat} (h : k < l.length) : rootsOf (l.take (k + 1)) = rootsOf (l.take k) ++ if l[k].prev = [] then [l[k].id] else [] := by
  unfold rootsOf
  rw [List.take_succ_eq_append_getElem h, List.filter_append, List.map_append]
  cases g : l[k].prev <;> simp [g]
theorem rootsOf_len (l : List Evt) : (rootsOf l).length ≤ l.length := by
  unfold rootsOf; rw [List.length_map]; exact List.length_filter_le _ _
set_option maxRecDepth 8000 in
set_option maxHeartbeats 4000000 in
theorem roots_ac (l : List Evt) (hl : l.length ≤ 1000000) : AC Try.prog 15 [evs l] (ints (sortedSet (rootsOf l))) := by
  refine AC.of_body Try.func15 rfl rfl Try.ntmps15 (congrArg Array.toList Try.results15) (by simp) (pures1 (pure_evs _)) (pureR_ints _) fun w S' => AWp.of_vc [] ?_
  have hm : l.length ≤ maxLen := by unfold maxLen; omega
  simp [go_sem]
  refine AWp.ownNil 3 3 1 (by simp [go_sem]) ?_
  refine AWp.loop_vc [] (fun m s => ∃ (k v : Nat), m = l.length - k ∧ k ≤ l.length ∧ s.σ 0 = evs l ∧ s.σ 6 = I l.length ∧ s.σ 7 = I k ∧ s.σ 3 = .ref 3 v ∧ s.ver 3 = v ∧ s.h 3 = .arr 3 1 ((rootsOf (l.take k)).map I)) l.length ⟨0, 1, by simp [go_sem, rootsOf]⟩ ?_
  rintro m s ⟨k, v, rfl, hk, h0, h6, h7, h3, hv, hh⟩
  by_cases hlt : k < l.length
  · have hsu := rootsOf_succ hlt
    have hrl := rootsOf_len (l.take k)
    rw [List.length_take] at hrl
    generalize rootsOf (l.take k) = X at hh hsu hrl
    by_cases g : l[k].prev = []
    · rw [if_pos g] at hsu
      simp [go_sem, h0, h6, h7, h3, hv, hh, hlt, g, wrap_succ hlt hm]
      exact ⟨⟨by omega, by omega⟩, l.length - (k + 1), by omega, k + 1, rfl, by omega, rfl, by rw [hsu]; simp [I]⟩
    · rw [if_neg g] at hsu
      simp [go_sem, h0, h6, h7, h3, hv, hh, hlt, g, wrap_succ hlt hm]
      exact ⟨l.length - (k + 1), by omega, k + 1, rfl, by omega, rfl, by rw [hsu]; simp⟩
  · rw [List.take_of_length_le (by omega)] at hh
    have hrl := rootsOf_len l
    generalize rootsOf l = X at hh hrl ⊢
    simp [go_sem, h0, h6, h7, h3, hv, hh, hlt]
    refine CallSem.freeze 3 ?_
    simp [go_sem, h0, h6, h7, h3, hv, hh, hlt]
    refine CallSem.pure (numSorted_ac X (by omega)) (by simp [go_sem]) ?_
    simp [go_sem]
    refine PostR.ret ?_
    simp [go_sem]
end Go.Proofs.Ythlcncofhnkohaa
