/- Contracts of chapter 09: the reference's Heads. No condition. -/
import Derived.Test.YthlcncofhnkohaaG8
namespace Go.Proofs.Ythlcncofhnkohaa
open Go Go.Abs
set_option linter.unusedSimpArgs false
def blkB (l : List Evt) (n m : Int) : Bool := (getE l m).isSome && (!(m == n) && hasCr2 ((getE l m).getD evZ).prev n)
def freeH (l : List Evt) (A : List Int) (n : Int) : Bool := A.all fun m => !blkB l n m
theorem heads_eq (l : List Evt) (ids : List Int) : (sortedL ids).filter (freeH l (sortedL ids)) = headsOf l ids := by
  refine strict_ext ((sortedL_sorted ids).1.filter _) (sortedSet_sorted _).1 fun n => ?_
  unfold headsOf
  rw [List.mem_filter, (sortedSet_sorted _).2, List.mem_filter, (sortedL_sorted ids).2]
  refine and_congr_right fun hn => ?_
  unfold freeH hasCr2 belowOf
  rw [List.all_eq_true]
  simp only [(sortedL_sorted ids).2]
  rw [Bool.not_eq_true', List.contains_eq_mem, decide_eq_false_iff_not, List.mem_flatMap]
  constructor
  · rintro h ⟨m, hm, hb⟩
    have := h m hm
    unfold blkB at this
    cases hg : getE l m with
    | none => rw [hg] at hb; simp at hb
    | some e =>
      rw [hg] at hb this
      unfold belowAt at hb
      simp only [Option.map_some, Option.getD_some, List.mem_filter] at hb
      have h1 : (m == n) = false := by
        have := hb.2
        simp at this
        simpa using fun he => this he.symm
      simp [hasCr2, h1, hb.1] at this
  · intro h m hm
    unfold blkB
    cases hg : getE l m with
    | none => rfl
    | some e =>
      by_cases h1 : m = n
      · simp [h1]
      · by_cases h2 : n ∈ e.prev
        · refine absurd ⟨m, hm, ?_⟩ h
          rw [hg]
          unfold belowAt
          simp only [Option.map_some, Option.getD_some, List.mem_filter]
          exact ⟨h2, by simpa using fun he => h1 he.symm⟩
        · simp [hasCr2, h2]
theorem freeUp_succ {l : List Evt} {A : List Int} {n : Int} {q : Nat} (h : q < A.length) : freeH l (A.take (q + 1)) n = (freeH l (A.take q) n && !blkB l n A[q]) := by
  unfold freeH; exact all_take h
set_option maxRecDepth 8000 in
set_option maxHeartbeats 4000000 in
theorem rheads_ac (l : List Evt) (ids : List Int) (hi : ids.length ≤ 1000000) : AC Try.prog 21 [evs l, ints ids] (ints (headsOf l ids)) := by
  refine AC.of_body Try.func21 rfl rfl Try.ntmps21 (congrArg Array.toList Try.results21) (by simp) (pures2 (pure_evs _) (pure_ints _)) (pureR_ints _) fun w S' => AWp.of_vc [14] ?_
  rw [← heads_eq]
  simp [go_sem]
  refine CallSem.pure (sorted_ac ids (by omega)) (by simp [go_sem]) ?_
  have hsl := sortedL_lenG ids
  have hss := (sortedL_sorted ids).1
  generalize sortedL ids = A at hsl hss ⊢
  have hm : A.length ≤ maxLen := by unfold maxLen; omega
  have hne : ∀ (i j : Nat) (hi : i < A.length) (hj : j < A.length), i ≠ j → (A[i] == A[j]) = false := fun i j hi hj h => by
    rw [beq_eq_false_iff_ne]
    rcases Nat.lt_or_gt_of_ne h with h | h
    · exact Int.ne_of_lt (List.pairwise_iff_getElem.1 hss i j hi hj h)
    · exact (Int.ne_of_lt (List.pairwise_iff_getElem.1 hss j i hj hi h)).symm
  simp [go_sem]
  refine AWp.loop_vc [] (fun m s => ∃ k v : Nat, k ≤ A.length ∧ m = A.length - k ∧ s.σ 0 = evs l ∧ s.σ 5 = ints A ∧ s.σ 7 = I k ∧ s.σ 6 = .ref 14 v ∧ s.ver 14 = v ∧ s.h 14 = .arr 3 1 (((A.take k).filter (freeH l A)).map I)) A.length ⟨0, 1, by simp [go_sem]⟩ ?_
  rintro m s ⟨k, v, hk, rfl, h0, h5, h7, h6, hv, hh⟩
  by_cases hlt : k < A.length
  · have hsu := filter_take3 (freeH l A) A k hlt
    have hfl : ((A.take k).filter (freeH l A)).length ≤ k := by
      have := List.length_filter_le (freeH l A) (A.take k)
      rw [List.length_take] at this; omega
    generalize (A.take k).filter (freeH l A) = X at hh hsu hfl
    simp [go_sem, h0, h5, h7, h6, hv, hh, hlt]
    refine AWp.loop_vc [] (fun m s => ∃ q : Nat, q ≤ A.length ∧ m = A.length - q ∧ s.σ 0 = evs l ∧ s.σ 5 = ints A ∧ s.σ 7 = I k ∧ s.σ 8 = B (freeH l (A.take q) A[k]) ∧ s.σ 9 = I q ∧ s.σ 6 = .ref 14 v ∧ s.ver 14 = v ∧ s.h 14 = .arr 3 1 (X.map I)) A.length ⟨0, by simp [go_sem, h0, h5, h7, h6, hv, hh, freeH]⟩ ?_
    clear h0 h5 h7 h6 hv hh
    rintro m s ⟨q, hq, rfl, h0, h5, h7, h8, h9, h6, hv, hh⟩
    by_cases hlq : q < A.length
    · have hfu := freeUp_succ (l := l) (n := A[k]) hlq
      generalize freeH l (A.take q) A[k] = fr at h8 hfu
      have hbl : blkB l A[k] A[q] = ((getE l A[q]).isSome && (!(A[q] == A[k]) && hasCr2 ((getE l A[q]).getD evZ).prev A[k])) := rfl
      simp [go_sem, h0, h5, h7, h8, h9, h6, hv, hh, hlt, hlq]
      refine CallSem.pure (rgetE_ac l A[q]) (by simp [go_sem]) ?_
      unfold optE
      generalize (getE l A[q]).getD evZ = e at hbl
      cases hg : (getE l A[q]).isSome with
      | false =>
        rw [hg] at hbl
        rw [hbl] at hfu
        simp [go_sem, h0, h5, h7, h8, h9, h6, hv, hh, hlt, hlq]
        refine AWp.drawAll rfl (by kernel_rfl) ?_
        simp [go_sem, h0, h5, h7, h8, h9, h6, hv, hh, hlt, hlq, wrap_succ hlq hm]
        exact ⟨A.length - (q + 1), by omega, q + 1, by omega, rfl, by rw [hfu]; simp, rfl⟩
      | true =>
        rw [hg] at hbl
        by_cases hqk : q = k
        · subst hqk
          have hbf : blkB l A[q] A[q] = false := by rw [hbl]; simp
          rw [hbf] at hfu
          simp [go_sem, h0, h5, h7, h8, h9, h6, hv, hh, hlt, hlq]
          refine AWp.drawAll rfl (by kernel_rfl) ?_
          simp [go_sem, h0, h5, h7, h8, h9, h6, hv, hh, hlt, hlq, wrap_succ hlq hm]
          exact ⟨A.length - (q + 1), by omega, q + 1, by omega, rfl, by rw [hfu]; simp, rfl⟩
        · have hqki : ¬ (q : Int) = (k : Int) := by omega
          have hneq := hne q k hlq hlt hqk
          have hbf : blkB l A[k] A[q] = hasCr2 e.prev A[k] := by rw [hbl, hneq]; simp
          rw [hbf] at hfu
          simp [go_sem, h0, h5, h7, h8, h9, h6, hv, hh, hlt, hlq]
          refine AWp.drawAll rfl (by kernel_rfl) ?_
          simp [go_sem, h0, h5, h7, h8, h9, h6, hv, hh, hlt, hlq, hqki]
          refine CalmThen.pure (r := B (hasCr2 e.prev A[k])) (has_ac e.prev A[k]) rfl ?_
          cases hc : hasCr2 e.prev A[k] with
          | true =>
            rw [hc] at hfu
            simp [go_sem, h0, h5, h7, h8, h9, h6, hv, hh, hlt, hlq, hqki, wrap_succ hlq hm]
            exact ⟨A.length - (q + 1), by omega, q + 1, by omega, rfl, by rw [hfu]; simp, rfl⟩
          | false =>
            rw [hc] at hfu
            simp [go_sem, h0, h5, h7, h8, h9, h6, hv, hh, hlt, hlq, hqki, wrap_succ hlq hm]
            exact ⟨A.length - (q + 1), by omega, q + 1, by omega, rfl, by rw [hfu]; simp, rfl⟩
    · rw [List.take_of_length_le (by omega)] at h8
      cases hc : freeH l A A[k] with
      | true =>
        rw [hc] at h8 hsu
        simp [go_sem, h0, h5, h7, h8, h9, h6, hv, hh, hlt, hlq, wrap_succ hlt hm]
        exact ⟨⟨by omega, by omega⟩, A.length - (k + 1), by omega, k + 1, by omega, rfl, rfl, by rw [hsu]; simp [I]⟩
      | false =>
        rw [hc] at h8 hsu
        simp [go_sem, h0, h5, h7, h8, h9, h6, hv, hh, hlt, hlq, wrap_succ hlt hm]
        exact ⟨A.length - (k + 1), by omega, k + 1, by omega, rfl, rfl, by rw [hsu]; simp⟩
  · rw [List.take_of_length_le (by omega)] at hh
    simp [go_sem, h0, h5, h7, h6, hv, hh, hlt]
    refine PostR.retW [14] ?_ (.refl _)
    simp [go_sem, h6, hv, hh]
end Go.Proofs.Ythlcncofhnkohaa
