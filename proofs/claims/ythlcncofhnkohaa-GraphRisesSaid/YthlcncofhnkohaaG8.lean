/- Contracts of chapter 09: the reference's deep, Depths, Heads, less, Order. No condition. -/
import Derived.Test.YthlcncofhnkohaaG7
namespace Go.Proofs.Ythlcncofhnkohaa
open Go Go.Abs
set_option linter.unusedSimpArgs false
def hitOf (l : List Evt) (e : Evt) (n : Int) : Bool := depthOf l n == IntKind.i64.wrap (e.depth - 1)
def nearUp (l : List Evt) (e : Evt) (q : Nat) : Bool := e.prev.isEmpty || (e.prev.take q).any (hitOf l e)
def prevBad (l : List Evt) (e : Evt) : Bool := e.prev.any fun n => decide (e.depth ≤ depthOf l n)
def rootBad (e : Evt) : Bool := e.prev.isEmpty && !(e.depth == 1)
def deepR (l : List Evt) (e : Evt) : Bool := !rootBad e && (!authBad l e && (!prevBad l e && (e.prev.isEmpty || e.prev.any (hitOf l e))))
theorem nearUp_succ {l : List Evt} {e : Evt} {q : Nat} (h : q < e.prev.length) : nearUp l e (q + 1) = (nearUp l e q || hitOf l e e.prev[q]) := by
  unfold nearUp; rw [List.take_succ_eq_append_getElem h, List.any_append]; simp [Bool.or_assoc]
theorem prevBad_hit {l : List Evt} {e : Evt} {k : Nat} (h : k < e.prev.length) (hb : e.depth ≤ depthOf l e.prev[k]) : prevBad l e = true := List.any_eq_true.2 ⟨e.prev[k], List.getElem_mem h, by simpa using hb⟩
theorem prevBad_none {l : List Evt} {e : Evt} {k : Nat} (h : ¬ k < e.prev.length) (hu : AllUp (fun n => decide (depthOf l n < e.depth)) e.prev k) : prevBad l e = false := by
  have := hu.full h
  rw [List.all_eq_true] at this
  exact List.any_eq_false.2 fun n hn => by have := this n hn; simp at this; simp; omega
set_option maxRecDepth 8000 in
set_option maxHeartbeats 4000000 in
theorem rdeep_ac (l : List Evt) (e : Evt) (hp40 : e.prev.length ≤ 40) (ha40 : e.auth.length ≤ 40) : AC Try.prog 52 [evs l, ev e] (B (deepR l e)) := by
  refine AC.of_body Try.func52 rfl rfl Try.ntmps52 (congrArg Array.toList Try.results52) (by simp) (pures2 (pure_evs _) (pure_ev _)) (pure_B _) fun w S' => AWp.of_vc [] ?_
  have hpm : e.prev.length ≤ maxLen := by unfold maxLen; omega
  have ham : e.auth.length ≤ maxLen := by unfold maxLen; omega
  by_cases hrb : e.prev = [] ∧ ¬ e.depth = 1
  · have hb : deepR l e = false := by unfold deepR rootBad; rw [hrb.1]; simp [hrb.2]
    simp [go_sem, hrb.1, hrb.2]
    refine PostR.ret ?_
    simp [go_sem, hb]
  · have hrf : rootBad e = false := by
      unfold rootBad
      rw [Bool.eq_false_iff]
      intro h
      simp at h
      exact hrb h
    have hcond : e.prev = [] → e.depth = 1 := fun h => Classical.byContradiction fun hn => hrb ⟨h, hn⟩
    have first : ∀ {Q : Prop}, (e.prev = [] → e.depth = 1 → Q) → (¬ e.prev = [] → Q) → Q := fun h1 h2 => by
      by_cases h : e.prev = []
      · exact h1 h (hcond h)
      · exact h2 h
    by_cases hP0 : e.prev = []
    · have hd1 := hcond hP0
      have hdr : deepR l e = !authBad l e := by unfold deepR prevBad; rw [hrf, hP0]; simp
      simp [go_sem, hP0, hd1]
      refine AWp.loop_vc [] (fun m s => ∃ k : Nat, k ≤ e.auth.length ∧ m = e.auth.length - k ∧ s.σ 0 = evs l ∧ s.σ 3 = .eptr (evc e) 0 ∧ s.σ 5 = I k ∧ AllUp (fun n => decide (depthOf l n < e.depth)) e.auth k) e.auth.length ⟨0, by simp [go_sem, AllUp.zero]⟩ ?_
      rintro m s ⟨k, hk, rfl, h0, h3, h5, hup⟩
      by_cases hlt : k < e.auth.length
      · simp [go_sem, h0, h3, h5, hlt]
        refine CallSem.pure (rgetE_ac l e.auth[k]) (by simp [go_sem]) ?_
        unfold optE
        have hdo : depthOf l e.auth[k] = ((getE l e.auth[k]).getD evZ).depth := rfl
        generalize (getE l e.auth[k]).getD evZ = e2 at hdo
        by_cases hc : e.depth ≤ e2.depth
        · have hb : deepR l e = false := by rw [hdr, authBad_hit hlt (by omega)]; rfl
          simp [go_sem, h0, h3, h5, hlt, hc]
          refine PostR.ret ?_
          simp [go_sem, hb]
        · simp [go_sem, h0, h3, h5, hlt, hc, wrap_succ hlt ham]
          exact ⟨e.auth.length - (k + 1), by omega, k + 1, by omega, rfl, rfl, hup.succ hlt (by simp; omega)⟩
      · have hab := authBad_none hlt hup
        have hb : deepR l e = true := by rw [hdr, hab]; rfl
        simp [go_sem, h0, h3, h5, hlt, hP0]
        refine AWp.loop_vc [] (fun m s => s.σ 3 = .eptr (evc e) 0 ∧ s.σ 8 = B true ∧ s.σ 9 = I 0) 0 (by simp [go_sem, h3]) ?_
        rintro m s' ⟨g3, g8, g9⟩
        simp [go_sem, g3, g8, g9, hP0]
        refine PostR.ret ?_
        simp [go_sem, hb]
    · have hpe : e.prev.isEmpty = false := by simpa using hP0
      have hdr : deepR l e = (!authBad l e && (!prevBad l e && e.prev.any (hitOf l e))) := by unfold deepR; rw [hrf, hpe]; simp
      simp [go_sem, hP0]
      refine AWp.loop_vc [] (fun m s => ∃ k : Nat, k ≤ e.auth.length ∧ m = e.auth.length - k ∧ s.σ 0 = evs l ∧ s.σ 3 = .eptr (evc e) 0 ∧ s.σ 5 = I k ∧ AllUp (fun n => decide (depthOf l n < e.depth)) e.auth k) e.auth.length ⟨0, by simp [go_sem, AllUp.zero]⟩ ?_
      rintro m s ⟨k, hk, rfl, h0, h3, h5, hup⟩
      by_cases hlt : k < e.auth.length
      · simp [go_sem, h0, h3, h5, hlt]
        refine CallSem.pure (rgetE_ac l e.auth[k]) (by simp [go_sem]) ?_
        unfold optE
        have hdo : depthOf l e.auth[k] = ((getE l e.auth[k]).getD evZ).depth := rfl
        generalize (getE l e.auth[k]).getD evZ = e2 at hdo
        by_cases hc : e.depth ≤ e2.depth
        · have hb : deepR l e = false := by rw [hdr, authBad_hit hlt (by omega)]; rfl
          simp [go_sem, h0, h3, h5, hlt, hc]
          refine PostR.ret ?_
          simp [go_sem, hb]
        · simp [go_sem, h0, h3, h5, hlt, hc, wrap_succ hlt ham]
          exact ⟨e.auth.length - (k + 1), by omega, k + 1, by omega, rfl, rfl, hup.succ hlt (by simp; omega)⟩
      · have hab := authBad_none hlt hup
        have hdr2 : deepR l e = (!prevBad l e && e.prev.any (hitOf l e)) := by rw [hdr, hab]; rfl
        have hnz : nearUp l e 0 = false := by unfold nearUp; rw [hpe]; rfl
        simp [go_sem, h0, h3, h5, hlt, hP0]
        refine AWp.loop_vc [] (fun m s => ∃ q : Nat, q ≤ e.prev.length ∧ m = e.prev.length - q ∧ s.σ 0 = evs l ∧ s.σ 3 = .eptr (evc e) 0 ∧ s.σ 8 = B (nearUp l e q) ∧ s.σ 9 = I q ∧ AllUp (fun n => decide (depthOf l n < e.depth)) e.prev q) e.prev.length ⟨0, by simp [go_sem, h0, h3, AllUp.zero, hnz, hP0]⟩ ?_
        clear h0 h3 h5 hlt hup hk k
        rintro m s ⟨q, hq, rfl, h0, h3, h8, h9, hup⟩
        by_cases hlt : q < e.prev.length
        · have hsu := nearUp_succ (l := l) hlt
          have hhit : hitOf l e e.prev[q] = (depthOf l e.prev[q] == IntKind.i64.wrap (e.depth - 1)) := rfl
          simp [go_sem, h0, h3, h8, h9, hlt]
          refine CallSem.pure (rgetE_ac l e.prev[q]) (by simp [go_sem]) ?_
          unfold optE
          have hdo : depthOf l e.prev[q] = ((getE l e.prev[q]).getD evZ).depth := rfl
          generalize (getE l e.prev[q]).getD evZ = e2 at hdo
          rw [hdo] at hhit
          by_cases hc : e.depth ≤ e2.depth
          · have hb : deepR l e = false := by rw [hdr2, prevBad_hit hlt (by omega)]; rfl
            simp [go_sem, h0, h3, h8, h9, hlt, hc]
            refine PostR.ret ?_
            simp [go_sem, hb]
          · have hup' := hup.succ hlt (by simp; omega)
            cases hn : nearUp l e q with
            | true =>
              rw [hn] at h8 hsu
              simp [go_sem, h0, h3, h8, h9, hlt, hc, wrap_succ hlt hpm]
              exact ⟨e.prev.length - (q + 1), by omega, q + 1, by omega, rfl, by rw [hsu]; rfl, rfl, hup'⟩
            | false =>
              rw [hn] at h8 hsu
              simp [go_sem, h0, h3, h8, h9, hlt, hc, wrap_succ hlt hpm]
              exact ⟨e.prev.length - (q + 1), by omega, q + 1, by omega, rfl, by rw [hsu, hhit]; rfl, rfl, hup'⟩
        · have hpb := prevBad_none hlt hup
          have hnr : nearUp l e q = e.prev.any (hitOf l e) := by unfold nearUp; rw [hpe, List.take_of_length_le (by omega)]; rfl
          have hb : deepR l e = nearUp l e q := by rw [hdr2, hpb, hnr]; rfl
          simp [go_sem, h0, h3, h8, h9, hlt]
          refine PostR.ret ?_
          simp [go_sem, hb]
def depthsR (l : List Evt) : Int := if closedOf l = true then (if l.all (deepR l) = true then 0 else 15) else 14
set_option maxRecDepth 8000 in
set_option maxHeartbeats 4000000 in
theorem rdepths_ac (l : List Evt) (hl : Fit l) : AC Try.prog 27 [evs l] (I (depthsR l)) := by
  refine AC.of_body Try.func27 rfl rfl Try.ntmps27 (congrArg Array.toList Try.results27) (by simp) (pures1 (pure_evs _)) (pure_I _) fun w S' => AWp.of_vc [] ?_
  have hll := hl.len
  have hm : l.length ≤ maxLen := by unfold maxLen; omega
  simp [go_sem]
  refine CallSem.pure (rclosed_ac l hl) (by simp [go_sem]) ?_
  cases hc : closedOf l with
  | false =>
    have hr : depthsR l = 14 := by unfold depthsR; rw [hc]; rfl
    simp [go_sem]
    refine PostR.ret ?_
    simp [go_sem, hr]
  | true =>
    simp [go_sem]
    refine AWp.loop_vc [] (fun m s => ∃ k : Nat, k ≤ l.length ∧ m = l.length - k ∧ s.σ 0 = evs l ∧ s.σ 3 = I k ∧ AllUp (deepR l) l k) l.length ⟨0, by simp [go_sem, AllUp.zero]⟩ ?_
    rintro m s ⟨k, hk', rfl, h0, h3, hup⟩
    by_cases hlt : k < l.length
    · simp [go_sem, h0, h3, hlt]
      refine CallSem.pure (rdeep_ac l l[k] (hl.prev _ (List.getElem_mem hlt)) (hl.auth _ (List.getElem_mem hlt))) (by simp [go_sem]) ?_
      cases hd : deepR l l[k] with
      | false =>
        have hr : depthsR l = 15 := by unfold depthsR; rw [hc, all_miss hlt hd]; rfl
        simp [go_sem, h0, h3, hlt]
        refine PostR.ret ?_
        simp [go_sem, hr]
      | true =>
        simp [go_sem, h0, h3, hlt, wrap_succ hlt hm]
        exact ⟨l.length - (k + 1), by omega, k + 1, by omega, rfl, rfl, hup.succ hlt hd⟩
    · have hr : depthsR l = 0 := by unfold depthsR; rw [hc, hup.full hlt]; rfl
      simp [go_sem, h0, h3, hlt]
      refine PostR.ret ?_
      simp [go_sem, hr]
set_option maxRecDepth 8000 in
set_option maxHeartbeats 4000000 in
theorem less9_ac (a b : Evt) : AC Try.prog 42 [ev a, ev b] (B (!leE b a)) := by
  refine AC.of_body Try.func42 rfl rfl Try.ntmps42 (congrArg Array.toList Try.results42) (by simp) (pures2 (pure_ev _) (pure_ev _)) (pure_B _) fun w S' => AWp.of_vc [] ?_
  by_cases c1 : a.depth < b.depth
  · have hb : leE b a = false := by simp [leE]; omega
    simp [go_sem, c1]
    refine PostR.ret ?_
    simp [go_sem, hb]
  · by_cases c2 : a.depth = b.depth
    · by_cases c3 : a.id < b.id
      · have hb : leE b a = false := by simp [leE]; omega
        simp [go_sem, c1, c2, c3]
        refine PostR.ret ?_
        simp [go_sem, hb]
      · have hb : leE b a = true := by simp [leE]; omega
        simp [go_sem, c1, c2, c3]
        refine PostR.ret ?_
        simp [go_sem, hb]
    · have hb : leE b a = true := by simp [leE]; omega
      simp [go_sem, c1, c2]
      refine PostR.ret ?_
      simp [go_sem, hb]
set_option maxRecDepth 8000 in
set_option maxHeartbeats 4000000 in
theorem rorder_ac (l : List Evt) (hsz : l.length ≤ 1000) : AC Try.prog 18 [evs l] (ints (orderOf l)) := by
  refine AC.of_body Try.func18 rfl rfl Try.ntmps18 (congrArg Array.toList Try.results18) (by simp) (pures1 (pure_evs _)) (pureR_ints _) fun w S' => AWp.of_vc [] ?_
  have hm : l.length ≤ maxLen := by unfold maxLen; omega
  have hinj : ∀ d d' : Nat, d ≠ d' → d ≠ d' := fun _ _ h => h
  simp [go_sem]
  refine AWp.ownNil 3 46 29 (by simp [go_sem]) ?_
  refine AWp.loop_vc [] (fun m s => ∃ k v : Nat, k ≤ l.length ∧ m = l.length - k ∧ s.σ 0 = evs l ∧ s.σ 4 = I k ∧ s.σ 3 = .ref 3 v ∧ s.ver 3 = v ∧ s.h 3 = .arr 46 29 ((isortE (l.take k)).map ev)) l.length ⟨0, 1, by simp [go_sem, isortE]⟩ ?_
  rintro m s ⟨k, v, hk, rfl, h0, h4, h3, hv, hh⟩
  by_cases hlt : k < l.length
  · have hsu := isortE_succ hlt
    have hAl : (isortE (l.take k)).length = k := by rw [isortE_len, List.length_take]; omega
    have hAs := isortE_sorted (l.take k)
    generalize isortE (l.take k) = A at hh hsu hAl hAs
    generalize hx : l[k] = x at hsu
    simp [go_sem, h0, h4, h3, hv, hh, hlt, hx]
    refine ⟨⟨by omega, by omega⟩, ?_⟩
    have hAm : A.length ≤ maxLen := by omega
    refine AWp.loop_vc [] (fun m s => ∃ q v : Nat, q ≤ A.length ∧ m = q ∧ s.σ 0 = evs l ∧ s.σ 4 = I k ∧ s.σ 3 = .ref 3 v ∧ s.ver 3 = v ∧ s.h 3 = .arr 46 29 ((mid A x q).map ev) ∧ s.σ 5 = I q ∧ UpB A x q) A.length ⟨A.length, v + 1, by simp [go_sem, h0, h4, h3, hv, hh, hAl]; subst hAl; exact ⟨by simp [mid_full, ev], UpB.full A x⟩⟩ ?_
    clear h0 h4 h3 hv hh v
    rintro m s ⟨q, v, hq, hmq, h0, h4, h3, hv, hh, h5, hup⟩
    cases q with
    | zero =>
      have hdone : mid A x 0 = isortE (l.take (k + 1)) := by rw [hsu]; exact mid_done hAs (by omega) hup (fun j h hj => by omega)
      rw [hdone] at hh
      simp [go_sem, h0, h4, h3, hv, hh, h5]
      refine AWp.drawAll rfl (by kernel_rfl) ?_
      simp [go_sem, h0, h4, h3, hv, hh, h5, wrap_succ hlt hm]
      exact ⟨l.length - (k + 1), by omega, k + 1, by omega, rfl, rfl, rfl⟩
    | succ p =>
      have hp : p < A.length := by omega
      have hb := mid_below (x := x) hp
      have hat := mid_at (x := x) hq
      have hml := mid_len (x := x) hq
      have hswap := mid_swap (x := x) hp
      have hdone : leE A[p] x = true → mid A x (p + 1) = isortE (l.take (k + 1)) := fun hle => by rw [hsu]; exact mid_done hAs hq hup (fun j h hj => by have hjp : j = p := (by omega); subst hjp; exact hle)
      have hstep : leE A[p] x = false → UpB A x p := fun hle => hup.step hp hle
      generalize hy : A[p] = y at hb hswap hdone hstep
      generalize mid A x (p + 1) = L at hh hb hat hml hswap hdone
      have hpL : p < L.length := by omega
      have hqL : p + 1 < L.length := by omega
      have hb' : L[p] = y := by rw [List.getElem?_eq_getElem hpL] at hb; exact Option.some.inj hb
      have hat' : L[p + 1] = x := by rw [List.getElem?_eq_getElem hqL] at hat; exact Option.some.inj hat
      have hqLi : (p : Int) + 1 < (L.length : Int) := by omega
      have hw : IntKind.i64.wrap (p : Int) = p := wrap_natN (by omega)
      have h5' : s.σ 5 = I ((p : Int) + 1) := h5
      have hpos : (0 : Int) < (p : Int) + 1 := by omega
      have hpos2 : (0 : Int) ≤ (p : Int) + 1 := by omega
      have htn : ((p : Int) + 1).toNat = p + 1 := by omega
      simp [go_sem, h0, h4, h3, hv, hh, h5', hpos]
      refine AWp.drawAll rfl (by kernel_rfl) ?_
      simp (maxSteps := 1000000) [go_sem, h0, h4, h3, hv, hh, h5', hpos, hpos2, htn, hw, hpL, hqL, hqLi, hb', hat']
      refine CalmThen.pure (r := B (!leE y x)) (less9_ac x y) rfl ?_
      cases hle : leE y x with
      | true =>
        simp (maxSteps := 1000000) [go_sem, h0, h4, h3, hv, hh, h5', hpos, hpos2, htn, hw, hpL, hqL, hqLi, hb', hat', wrap_succ hlt hm]
        exact ⟨l.length - (k + 1), by omega, k + 1, by omega, rfl, rfl, by rw [hdone hle]⟩
      | false =>
        have hup' := hstep hle
        simp (maxSteps := 1000000) [go_sem, h0, h4, h3, hv, hh, h5', hpos, hpos2, htn, hw, hpL, hqL, hqLi, hb', hat']
        refine AWp.drawText [] [] [3] [45, 49] rfl (by kernel_rfl) hinj ?_
        simp (maxSteps := 1000000) [go_sem, h0, h4, h3, hv, hh, h5', hpos, hpos2, htn, hw, hpL, hqL, hqLi, hb', hat']
        exact ⟨p, by omega, p, by omega, rfl, by rw [← hswap]; simp [List.map_set, ev]; rw [List.set_comm]; omega, rfl, hup'⟩
  · rw [List.take_of_length_le (by omega)] at hh
    have hSl := isortE_len l
    have hres : orderOf l = (isortE l).map (·.id) := rfl
    generalize isortE l = S at hh hSl hres
    simp [go_sem, h0, h4, h3, hv, hh, hlt]
    refine CallSem.freeze 3 ?_
    simp [go_sem, h0, h4, h3, hv, hh, hlt]
    refine CallSem.pure (rids_ac S (by omega)) (by simp [go_sem]) ?_
    rw [← hres]
    simp [go_sem]
    refine PostR.ret ?_
    simp [go_sem]
end Go.Proofs.Ythlcncofhnkohaa
