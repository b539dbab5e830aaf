/- Contracts of chapter 09: deep, Depths (both). No condition. -/
import Derived.Test.YthlcncofhnkohaaG6
namespace Go.Proofs.Ythlcncofhnkohaa
open Go Go.Abs
set_option linter.unusedSimpArgs false
def depthOf (l : List Evt) (n : Int) : Int := ((getE l n).getD evZ).depth
def authBad (l : List Evt) (e : Evt) : Bool := e.auth.any fun n => decide (e.depth ≤ depthOf l n)
def mostOf (l : List Evt) (d : Int) (r : List Int) : Int := r.foldl (fun m n => if m < depthOf l n then depthOf l n else m) d
theorem mostOf_succ {l : List Evt} {d : Int} {r : List Int} {k : Nat} (h : k < r.length) : mostOf l d (r.take (k + 1)) = if mostOf l d (r.take k) < depthOf l r[k] then depthOf l r[k] else mostOf l d (r.take k) := by
  unfold mostOf; rw [List.take_succ_eq_append_getElem h, List.foldl_append]; rfl
def nearOf (l : List Evt) (e : Evt) : Bool := match e.prev with
  | [] => e.depth == 1
  | n :: r => decide (mostOf l (depthOf l n) (n :: r) < e.depth) && (IntKind.i64.wrap (e.depth - mostOf l (depthOf l n) (n :: r)) == 1)
def deepP (l : List Evt) (e : Evt) : Bool := !authBad l e && nearOf l e
theorem idx_known {l : List Evt} {n : Int} (h : knownB l n = true) : ∃ j, ∃ hj : j < l.length, mget (idxM l) n = some (.int .i64 j) ∧ depthOf l n = l[j].depth := by
  rcases idx_get l n with ⟨h1, _⟩ | ⟨j, hj, h1, h2⟩
  · unfold knownB at h; rw [h1] at h; cases h
  · exact ⟨j, hj, h2, by unfold depthOf; rw [h1]; rfl⟩
theorem authBad_hit {l : List Evt} {e : Evt} {k : Nat} (h : k < e.auth.length) (hb : e.depth ≤ depthOf l e.auth[k]) : authBad l e = true := List.any_eq_true.2 ⟨e.auth[k], List.getElem_mem h, by simpa using hb⟩
theorem authBad_none {l : List Evt} {e : Evt} {k : Nat} (h : ¬ k < e.auth.length) (hu : AllUp (fun n => decide (depthOf l n < e.depth)) e.auth k) : authBad l e = false := by
  have := hu.full h
  rw [List.all_eq_true] at this
  exact List.any_eq_false.2 fun n hn => by have := this n hn; simp at this; simp; omega
set_option maxRecDepth 8000 in
set_option maxHeartbeats 4000000 in
theorem deep_ac (l : List Evt) (e : Evt) (hl : Fit l) (he : e ∈ l) (hkp : allKnown l e.prev = true) (hka : allKnown l e.auth = true) : AC Try.prog 51 [evs l, idxAV l, ev e] (B (deepP l e)) := by
  refine AC.of_body Try.func51 rfl rfl Try.ntmps51 (congrArg Array.toList Try.results51) (by simp) (pures3 (pure_evs _) (pure_idx _) (pure_ev _)) (pure_B _) fun w S' => AWp.of_vc [] ?_
  have hp40 := hl.prev e he
  have ha40 := hl.auth e he
  have hpm : e.prev.length ≤ maxLen := by unfold maxLen; omega
  have ham : e.auth.length ≤ maxLen := by unfold maxLen; omega
  unfold allKnown at hkp hka
  rw [List.all_eq_true] at hkp hka
  simp [go_sem]
  refine AWp.loop_vc [] (fun m s => ∃ k : Nat, k ≤ e.auth.length ∧ m = e.auth.length - k ∧ s.σ 0 = evs l ∧ s.σ 1 = idxAV l ∧ s.σ 5 = .eptr (evc e) 0 ∧ s.σ 13 = ints e.auth ∧ s.σ 14 = I e.auth.length ∧ s.σ 15 = I k ∧ AllUp (fun n => decide (depthOf l n < e.depth)) e.auth k) e.auth.length ⟨0, by simp [go_sem, AllUp.zero]⟩ ?_
  rintro m s ⟨k, hk, rfl, h0, h1, h5, h13, h14, h15, hup⟩
  by_cases hlt : k < e.auth.length
  · obtain ⟨j, hj, hm, hd⟩ := idx_known (hka _ (List.getElem_mem hlt))
    simp [go_sem, h0, h1, h5, h13, h14, h15, hlt]
    refine AWp.drawAll rfl (by kernel_rfl) ?_
    by_cases hc : e.depth ≤ l[j].depth
    · have hb : deepP l e = false := by unfold deepP; rw [authBad_hit hlt (by omega)]; rfl
      simp [go_sem, h0, h1, h5, h13, h14, h15, hlt, hm, hj, hc]
      refine PostR.ret ?_
      simp [go_sem, hb]
    · simp [go_sem, h0, h1, h5, h13, h14, h15, hlt, hm, hj, hc, wrap_succ hlt ham]
      exact ⟨e.auth.length - (k + 1), by omega, k + 1, by omega, rfl, rfl, hup.succ hlt (by simp; omega)⟩
  · have hab := authBad_none hlt hup
    have hdp : deepP l e = nearOf l e := by unfold deepP; rw [hab]; rfl
    cases hP : e.prev with
    | nil =>
      have hdp2 : deepP l e = (e.depth == 1) := by rw [hdp]; unfold nearOf; rw [hP]
      simp [go_sem, h0, h1, h5, h13, h14, h15, hlt, hP]
      refine PostR.ret ?_
      simp [go_sem, hdp2]
    | cons n0 r =>
      have hdp2 : deepP l e = (decide (mostOf l (depthOf l n0) (n0 :: r) < e.depth) && (IntKind.i64.wrap (e.depth - mostOf l (depthOf l n0) (n0 :: r)) == 1)) := by rw [hdp]; unfold nearOf; rw [hP]
      rw [hP] at hkp hp40 hpm
      obtain ⟨j, hj, hm, hd⟩ := idx_known (hkp n0 (List.mem_cons_self ..))
      have hne : ¬ ((r.length : Int) + 1 = 0) := by omega
      have hpos : (0 : Int) < (r.length : Int) + 1 := by omega
      simp [go_sem, h0, h1, h5, h13, h14, h15, hlt, hP, hne, hpos, hm, hj]
      rw [← hd]
      generalize depthOf l n0 = d0 at hdp2
      have hPP : n0 :: r = n0 :: r := rfl
      refine AWp.loop_vc [] (fun m s => ∃ k : Nat, k ≤ (n0 :: r).length ∧ m = (n0 :: r).length - k ∧ s.σ 0 = evs l ∧ s.σ 1 = idxAV l ∧ s.σ 5 = .eptr (evc e) 0 ∧ s.σ 48 = ints (n0 :: r) ∧ s.σ 49 = I (n0 :: r).length ∧ s.σ 50 = I k ∧ s.σ 9 = I (mostOf l d0 ((n0 :: r).take k))) (n0 :: r).length ⟨0, by simp [go_sem, h0, h1, h5, mostOf]⟩ ?_
      clear h0 h1 h5 h13 h14 h15 hlt hk hup k hne hpos hm hj hd j hPP
      generalize n0 :: r = P at hP hkp hp40 hpm hdp2
      rintro m s ⟨k, hk, rfl, h0, h1, h5, h48, h49, h50, h9⟩
      by_cases hlt : k < P.length
      · obtain ⟨j, hj, hm, hd⟩ := idx_known (hkp _ (List.getElem_mem hlt))
        have hsu := mostOf_succ (l := l) (d := d0) hlt
        rw [hd] at hsu
        generalize mostOf l d0 (P.take k) = M at h9 hsu
        simp [go_sem, h0, h1, h5, h48, h49, h50, h9, hlt, hm, hj, wrap_succ hlt hpm]
        exact ⟨P.length - (k + 1), by omega, k + 1, by omega, rfl, rfl, by rw [hsu]⟩
      · rw [List.take_of_length_le (by omega)] at h9
        generalize mostOf l d0 P = M at h9 hdp2
        by_cases hc : M < e.depth
        · simp [go_sem, h0, h1, h5, h48, h49, h50, h9, hlt, hc]
          refine PostR.ret ?_
          simp [go_sem, hdp2, hc]
        · simp [go_sem, h0, h1, h5, h48, h49, h50, h9, hlt, hc]
          refine PostR.ret ?_
          simp [go_sem, hdp2, hc]
def depthsP (l : List Evt) : Int := if closedOf l = true then (if l.all (deepP l) = true then 0 else 15) else 14
theorem closed_all {l : List Evt} (h : closedOf l = true) : ∀ e ∈ l, allKnown l e.prev = true ∧ allKnown l e.auth = true := fun e he => by
  unfold closedOf at h
  rw [List.all_eq_true] at h
  simpa using h e he
set_option maxRecDepth 8000 in
set_option maxHeartbeats 4000000 in
theorem depths_ac (l : List Evt) (hl : Fit l) : AC Try.prog 26 [evs l] (I (depthsP l)) := by
  refine AC.of_body Try.func26 rfl rfl Try.ntmps26 (congrArg Array.toList Try.results26) (by simp) (pures1 (pure_evs _)) (pure_I _) fun w S' => AWp.of_vc [] ?_
  have hll := hl.len
  have hm : l.length ≤ maxLen := by unfold maxLen; omega
  simp [go_sem]
  refine CallSem.pure (closed_ac l) (by simp [go_sem]) ?_
  cases hc : closedOf l with
  | false =>
    have hr : depthsP l = 14 := by unfold depthsP; rw [hc]; rfl
    simp [go_sem]
    refine PostR.ret ?_
    simp [go_sem, hr]
  | true =>
    have hk := closed_all hc
    simp [go_sem]
    refine CallSem.pure (index_ac l) (by simp [go_sem]) ?_
    simp [go_sem]
    refine AWp.loop_vc [] (fun m s => ∃ k : Nat, k ≤ l.length ∧ m = l.length - k ∧ s.σ 0 = evs l ∧ s.σ 3 = idxAV l ∧ s.σ 11 = I l.length ∧ s.σ 12 = I k ∧ AllUp (deepP l) l k) l.length ⟨0, by simp [go_sem, AllUp.zero]⟩ ?_
    rintro m s ⟨k, hk', rfl, h0, h3, h11, h12, hup⟩
    by_cases hlt : k < l.length
    · have hke := hk l[k] (List.getElem_mem hlt)
      simp [go_sem, h0, h3, h11, h12, hlt]
      refine CallSem.pure (deep_ac l l[k] hl (List.getElem_mem hlt) hke.1 hke.2) (by simp [go_sem]) ?_
      cases hd : deepP l l[k] with
      | false =>
        have hr : depthsP l = 15 := by unfold depthsP; rw [hc, all_miss hlt hd]; rfl
        simp [go_sem, h0, h3, h11, h12, hlt]
        refine PostR.ret ?_
        simp [go_sem, hr]
      | true =>
        simp [go_sem, h0, h3, h11, h12, hlt, wrap_succ hlt hm]
        exact ⟨l.length - (k + 1), by omega, k + 1, by omega, rfl, rfl, hup.succ hlt hd⟩
    · have hr : depthsP l = 0 := by unfold depthsP; rw [hc, hup.full hlt]; rfl
      simp [go_sem, h0, h3, h11, h12, hlt]
      refine PostR.ret ?_
      simp [go_sem, hr]
end Go.Proofs.Ythlcncofhnkohaa
