/- Contracts of chapter 36: the reference's Related, Latest. No condition. -/
import Derived.Test.YtckoolpjphhfdaaR8
namespace Go.Proofs.Ytckoolpjphhfdaa
open Go Go.Abs Go.Proofs
set_option linter.unusedSimpArgs false
set_option linter.unusedVariables false
def isRel (rel id : Int) (e : Evt) : Bool := decide ((relE e).1 = rel ∧ (relE e).2 = id)
def relL (K : List Evt) (rel id : Int) : List Evt := K.filter (isRel rel id)
theorem rel_succ {K : List Evt} {k : Nat} (rel id : Int) (hk : k < K.length) : relL (K.take (k + 1)) rel id = relL (K.take k) rel id ++ if (relE K[k]).1 = rel ∧ (relE K[k]).2 = id then [K[k]] else [] := by
  unfold relL
  rw [List.take_succ_eq_append_getElem hk, List.filter_append]
  congr 1
  by_cases h : (relE K[k]).1 = rel ∧ (relE K[k]).2 = id <;> simp [isRel, h]
theorem relL_len (K : List Evt) (rel id : Int) : (relL K rel id).length ≤ K.length := List.length_filter_le _ _
set_option maxRecDepth 8000 in
set_option maxHeartbeats 4000000 in
theorem related_ac (l : List Evt) (rel id : Int) (hsz : l.length ≤ 100000) : AC Try.prog 32 [evs l, I rel, I id] (evs (relL (onceL l) rel id)) := by
  refine AC.of_body Try.func32 rfl rfl Try.ntmps32 (congrArg Array.toList Try.results32) (by simp) (pures3 (pure_evs _) (pure_I _) (pure_I _)) (pure_evs _) fun w S' => AWp.of_vc [14] ?_
  have hol := onceL_len l
  simp [go_sem]
  refine CallSem.pure (once_ac l hsz) (by simp [go_sem]) ?_
  generalize onceL l = K at hol ⊢
  have hm : K.length ≤ maxLen := by unfold maxLen; omega
  simp [go_sem]
  refine AWp.loop_vc [] (fun m s => ∃ k v : Nat, k ≤ K.length ∧ m = K.length - k ∧ s.σ 1 = I rel ∧ s.σ 2 = I id ∧ s.σ 7 = evs K ∧ s.σ 9 = I k ∧ s.σ 8 = .ref 14 v ∧ s.ver 14 = v ∧ s.h 14 = .arr 34 29 ((relL (K.take k) rel id).map ev)) K.length ⟨0, by simp [go_sem, relL]⟩ ?_
  rintro m s ⟨k, v, hk, rfl, h1, h2, h7, h9, h8, hv8, hh8⟩
  by_cases hlt : k < K.length
  · have hsu := rel_succ rel id hlt
    have htl := relL_len (K.take k) rel id
    rw [List.length_take] at htl
    generalize relL (K.take k) rel id = T at hh8 hsu htl
    simp [go_sem, h1, h2, h7, h9, h8, hv8, hh8, hlt]
    refine CallSem.pure (rrel_ac K[k]) (by simp [go_sem]) ?_
    by_cases hr : (relE K[k]).1 = rel
    · by_cases hi : (relE K[k]).2 = id
      · rw [if_pos ⟨hr, hi⟩] at hsu
        simp [go_sem, h1, h2, h7, h9, h8, hv8, hh8, hlt, hr, hi, wrap_succ hlt hm]
        exact ⟨⟨by omega, by omega⟩, K.length - (k + 1), by omega, k + 1, by omega, rfl, rfl, by rw [hsu]; simp; rfl⟩
      · rw [if_neg (fun h => hi h.2)] at hsu
        simp [go_sem, h1, h2, h7, h9, h8, hv8, hh8, hlt, hr, hi, wrap_succ hlt hm]
        exact ⟨K.length - (k + 1), by omega, k + 1, by omega, rfl, rfl, by rw [hsu]; simp⟩
    · rw [if_neg (fun h => hr h.1)] at hsu
      simp [go_sem, h1, h2, h7, h9, h8, hv8, hh8, hlt, hr, wrap_succ hlt hm]
      exact ⟨K.length - (k + 1), by omega, k + 1, by omega, rfl, rfl, by rw [hsu]; simp⟩
  · obtain rfl : k = K.length := by omega
    rw [List.take_of_length_le (Nat.le_refl _)] at hh8
    simp [go_sem, h1, h2, h7, h9, h8, hv8, hh8]
    refine PostR.retW [14] ?_ (.refl _)
    simp [go_sem, h8, hv8, hh8]

def pickE (x e : Evt) : Evt := if laterE x e = true then e else x
/-- The latest of the first k + 1 events. -/
def latU (L : List Evt) : Nat → Evt
  | 0 => L.getD 0 evZ
  | k + 1 => match L[k + 1]? with
    | some e => pickE (latU L k) e
    | none => latU L k
def latestOf (L : List Evt) : Int := if L.length = 0 then 0 else (latU L (L.length - 1)).id
theorem latU_succ {L : List Evt} {k : Nat} (hk : k + 1 < L.length) : latU L (k + 1) = pickE (latU L k) L[k + 1] := by rw [latU, List.getElem?_eq_getElem hk]
theorem ev_full (a x : Evt) : evc a ++ List.drop 29 (evc x) = evc a := by rw [List.drop_eq_nil_of_le (show (evc x).length ≤ 29 from Nat.le_refl _), List.append_nil]
set_option maxRecDepth 8000 in
set_option maxHeartbeats 4000000 in
theorem rlatest_ac (L : List Evt) (hsz : L.length ≤ 100000) : AC Try.prog 33 [evs L] (I (latestOf L)) := by
  refine AC.of_body Try.func33 rfl rfl Try.ntmps33 (congrArg Array.toList Try.results33) (by simp) (pures1 (pure_evs _)) (pure_I _) fun w S' => AWp.of_vc [] ?_
  have hm : L.length ≤ maxLen := by unfold maxLen; omega
  unfold latestOf
  by_cases h0 : L.length = 0
  · have hL : L = [] := List.eq_nil_of_length_eq_zero h0
    subst hL
    simp [go_sem]
    refine PostR.ret ?_
    simp [go_sem]
  · have hne : ¬ L = [] := fun h => h0 (by rw [h]; rfl)
    have hpos : 0 < L.length := by omega
    have hz : L.getD 0 evZ = L[0] := by rw [List.getD_eq_getElem?_getD, List.getElem?_eq_getElem hpos]; rfl
    have hlz : latU L 0 = L[0] := hz
    rw [if_neg h0]
    simp [go_sem, h0, hne, hpos]
    refine AWp.loop_vc [] (fun m s => ∃ k : Nat, k + 1 ≤ L.length ∧ m = L.length - k ∧ s.σ 0 = evs L ∧ s.σ 4 = I ((k : Int) + 1) ∧ s.σ 3 = .rptr 3 1 0 0 ∧ s.ver 3 = 1 ∧ s.h 3 = .box (evc (latU L k))) L.length ⟨0, by omega, by omega, by simp [go_sem], by simp [go_sem], by simp [go_sem], by simp [go_sem], by rw [hlz]; simp [go_sem]⟩ ?_
    rintro m s ⟨k, hk, rfl, h0', h4, h3, hv3, hh3⟩
    by_cases hlt : k + 1 < L.length
    · have hsu := latU_succ hlt
      have t1 : (0 : Int) ≤ (k : Int) + 1 := by omega
      have t2 : ((k : Int) + 1).toNat = k + 1 := by omega
      have t4 : (k : Int) + 1 < L.length := by omega
      have hws : IntKind.i64.wrap ((k : Int) + 1 + 1) = (k : Int) + 1 + 1 := wrap_i64 (by omega) (by omega)
      generalize latU L k = x at hh3 hsu
      simp [go_sem, h0', h4, h3, hv3, hh3, t4]
      refine AWp.drawAll rfl (by kernel_rfl) ?_
      unfold pickE laterE at hsu
      by_cases c1 : x.time < L[k + 1].time
      · rw [if_pos (by simp [c1])] at hsu
        simp [go_sem, h0', h4, h3, hv3, hh3, t1, t2, t4, hlt, c1, hws]
        exact ⟨L.length - (k + 1), by omega, k + 1, by omega, rfl, by simp, by rw [hsu]; first | exact congrArg _ (ev_full _ _) | exact ev_full _ _⟩
      · by_cases c2 : L[k + 1].time = x.time
        · by_cases c3 : x.id < L[k + 1].id
          · rw [if_pos (by simp [c2, c3])] at hsu
            simp [go_sem, h0', h4, h3, hv3, hh3, t1, t2, t4, hlt, c1, c2, c3, hws]
            exact ⟨L.length - (k + 1), by omega, k + 1, by omega, rfl, by simp, by rw [hsu]; first | exact congrArg _ (ev_full _ _) | exact ev_full _ _⟩
          · rw [if_neg (by simp [c2, c3])] at hsu
            simp [go_sem, h0', h4, h3, hv3, hh3, t1, t2, t4, hlt, c1, c2, c3, hws]
            exact ⟨L.length - (k + 1), by omega, k + 1, by omega, rfl, by simp, by rw [hsu]⟩
        · rw [if_neg (by simp [c1, c2])] at hsu
          simp [go_sem, h0', h4, h3, hv3, hh3, t1, t2, t4, hlt, c1, c2, hws]
          exact ⟨L.length - (k + 1), by omega, k + 1, by omega, rfl, by simp, by rw [hsu]⟩
    · have t4 : ¬ (k : Int) + 1 < L.length := by omega
      have hkl : L.length - 1 = k := by omega
      rw [hkl]
      simp [go_sem, h0', h4, h3, hv3, hh3, t4]
      refine PostR.ret ?_
      simp [go_sem]

end Go.Proofs.Ytckoolpjphhfdaa
