/- Contracts of chapter 15: what the laws look at, and their worked example. No condition. -/
import Derived.Test.YtebggldlhohkpaaP3
namespace Go.Proofs.Ytebggldlhohkpaa
open Go Go.Abs
set_option linter.unusedSimpArgs false
def hasCr (s : List EntD) : Bool := s.any (isKey 1 [])
theorem hasCr_take {s : List EntD} {q : Nat} (h : q < s.length) : hasCr (s.take (q + 1)) = (hasCr (s.take q) || isKey 1 [] s[q]) := any_take h
def honO (o : Option Evt) (t : EntD) (room : Bytes) : Bool :=
  match o with
  | none => false
  | some x => decide (x.kind = t.kind ∧ x.key = t.key ∧ x.room = room)
def honT (l : List Evt) (room : Bytes) (t : EntD) : Bool := honO (getE l t.id) t room
def honB (l : List Evt) (s : List EntD) (room : Bytes) : Bool := s.all (honT l room) && hasCr s
theorem honB_iff {l : List Evt} {s : List EntD} {room : Bytes} : honB l s room = true ↔ honOf l s room ∧ ∃ t ∈ s, t.kind = 1 ∧ t.key = [] := by
  unfold honB honOf hasCr
  rw [Bool.and_eq_true, List.all_eq_true, List.any_eq_true]
  refine and_congr ⟨fun h t ht => ?_, fun h t ht => ?_⟩ ⟨fun ⟨x, h, hp⟩ => ⟨x, h, isKey_iff.1 hp⟩, fun ⟨x, h, hp⟩ => ⟨x, h, isKey_iff.2 hp⟩⟩
  · have := h t ht
    unfold honT honO at this
    split at this
    · cases this
    · rename_i x hx
      exact ⟨x, hx, of_decide_eq_true this⟩
  · obtain ⟨x, hx, h3⟩ := h t ht
    unfold honT
    rw [hx]
    exact decide_eq_true h3
set_option maxRecDepth 8000 in
set_option maxHeartbeats 4000000 in
theorem honest_ac (l : List Evt) (s : List EntD) (room : Bytes) : AC Try.prog 24 [evs l, ents s, S room] (B (honB l s room)) := by
  refine AC.of_body Try.func24 rfl rfl Try.ntmps24 (congrArg Array.toList Try.results24) (by simp) (pures3 (pure_evs _) (pure_ents _) (pure_S _)) (pure_B _) fun w S' => AWp.bound 1 rfl fun hlen => AWp.of_vc [] ?_
  rw [ents_len] at hlen
  simp [go_sem]
  refine AWp.loop_vc [] (fun m st => ∃ q : Nat, q ≤ s.length ∧ m = s.length - q ∧ st.σ 0 = evs l ∧ st.σ 1 = ents s ∧ st.σ 2 = S room ∧ st.σ 7 = B (hasCr (s.take q)) ∧ st.σ 8 = I q ∧ ∀ (j : Nat) t, j < q → s[j]? = some t → honT l room t = true) s.length ⟨0, by simp [go_sem, hasCr]⟩ ?_
  rintro m st ⟨q, hq, rfl, h0, h1, h2, h7, h8, hyes⟩
  by_cases hlt : q < s.length
  · have hstep := hasCr_take hlt
    have hbad : honT l room s[q] = false → honB l s room = false := fun h => by unfold honB; rw [all_false hlt h]; rfl
    generalize hc : hasCr (s.take q) = c at h7 hstep
    simp [go_sem, h0, h1, h2, h7, h8, hlt]
    refine CallSem.pure (rgetE_ac l s[q].id) (by simp [go_sem]) ?_
    cases hg : getE l s[q].id with
    | none =>
      have hb := hbad (by unfold honT; rw [hg]; rfl)
      simp [go_sem, h0, h1, h2, h7, h8, hlt]
      refine AWp.drawAll rfl (by kernel_rfl) ?_
      simp [go_sem, h0, h1, h2, h7, h8, hlt]
      refine PostR.ret ?_
      simp [go_sem, hb]
    | some x =>
      simp [go_sem, h0, h1, h2, h7, h8, hlt]
      refine AWp.drawAll rfl (by kernel_rfl) ?_
      by_cases k1 : x.kind = s[q].kind
      · by_cases k2 : x.key = s[q].key
        · by_cases k3 : x.room = room
          · have hok : honT l room s[q] = true := by unfold honT; rw [hg]; exact decide_eq_true ⟨k1, k2, k3⟩
            have hyes' := below_step hlt hyes hok
            cases c with
            | true =>
              simp [go_sem, h0, h1, h2, h7, h8, hlt, k1, k2, k3, wrap_succ hlt hlen]
              exact ⟨s.length - (q + 1), by omega, q + 1, by omega, rfl, by rw [hstep]; rfl, rfl, hyes'⟩
            | false =>
              by_cases k4 : s[q].kind = 1
              · by_cases k5 : s[q].key = []
                · rw [isKey_iff.2 ⟨k4, k5⟩] at hstep
                  simp [go_sem, h0, h1, h2, h7, h8, hlt, k1, k2, k3, k4, k5, wrap_succ hlt hlen]
                  exact ⟨s.length - (q + 1), by omega, q + 1, by omega, rfl, by rw [hstep]; rfl, rfl, hyes'⟩
                · have hk : isKey 1 [] s[q] = false := by
                    cases hh : isKey 1 [] s[q]
                    · rfl
                    · exact (k5 (isKey_iff.1 hh).2).elim
                  rw [hk] at hstep
                  have k6 : s[q].key.isEmpty = false := by cases hh : s[q].key <;> simp_all
                  simp [go_sem, h0, h1, h2, h7, h8, hlt, k1, k2, k3, k4, k5, k6, wrap_succ hlt hlen]
                  exact ⟨s.length - (q + 1), by omega, q + 1, by omega, rfl, by rw [hstep]; rfl, rfl, hyes'⟩
              · have hk : isKey 1 [] s[q] = false := by
                  cases hh : isKey 1 [] s[q]
                  · rfl
                  · exact (k4 (isKey_iff.1 hh).1).elim
                rw [hk] at hstep
                simp [go_sem, h0, h1, h2, h7, h8, hlt, k1, k2, k3, k4, wrap_succ hlt hlen]
                exact ⟨s.length - (q + 1), by omega, q + 1, by omega, rfl, by rw [hstep]; rfl, rfl, hyes'⟩
          · have hb := hbad (by unfold honT; rw [hg]; exact decide_eq_false fun h => k3 h.2.2)
            have k3' : (x.room == room) = false := by simpa using k3
            simp [go_sem, h0, h1, h2, h7, h8, hlt, k1, k2, k3, k3']
            refine PostR.ret ?_
            simp [go_sem, hb]
        · have hb := hbad (by unfold honT; rw [hg]; exact decide_eq_false fun h => k2 h.2.1)
          have k2' : (x.key == s[q].key) = false := by simpa using k2
          simp [go_sem, h0, h1, h2, h7, h8, hlt, k1, k2, k2']
          refine PostR.ret ?_
          simp [go_sem, hb]
      · have hb := hbad (by unfold honT; rw [hg]; exact decide_eq_false fun h => k1 h.1)
        simp [go_sem, h0, h1, h2, h7, h8, hlt, k1]
        refine PostR.ret ?_
        simp [go_sem, hb]
  · rw [List.take_of_length_le (by omega)] at h7
    have hall : s.all (honT l room) = true := all_true fun j t hj => hyes j t (by have := (List.getElem?_eq_some_iff.1 hj).1; omega) hj
    simp [go_sem, h0, h1, h2, h7, h8, hlt]
    refine PostR.ret ?_
    simp only [honB, hall, Bool.true_and]
    simp [go_sem]

def exAx : Bytes := [64, 97, 58, 120]
def exBy : Bytes := [64, 98, 58, 121]
def exText : Evt := { evZ with kind := 11, sender := exAx }
def exBan : Evt := { evZ with kind := 2, sender := exAx, key := exBy, content := { evZ.content with n := 4 } }
def exWant : List EntD := [⟨1, [], 0⟩, ⟨2, exAx, 0⟩, ⟨2, exBy, 0⟩, ⟨3, [], 0⟩]
def exS : List EntD := [⟨1, [], 5⟩, ⟨2, exAx, 3⟩, ⟨7, [], 4⟩]
def exL0 : Evt := { evZ with id := 5, kind := 1, state := true }
def exOf : Evt := { exText with auth := [5] }
theorem ex15_keys : keysOf exBan = exWant ∧ (keysOf exText).length = 3 ∧ keysOf exL0 = [] ∧ selOf exText exS = [3, 5] := by decide
theorem ex15_fits : fitsOf [exL0] exText = 16 ∧ fitsOf [] exL0 = 0 ∧ fitsOf [exL0] exOf = 0 ∧ fitsOf [] exOf = 14 := by decide
theorem ex15_from : fromOf [exL0] exOf = [exL0] := by rfl
set_option maxRecDepth 8000 in
set_option maxHeartbeats 4000000 in
theorem live15_ac  : AC Try.prog 14 [] (B true) := by
  refine AC.of_body Try.func14 rfl rfl Try.ntmps14 (congrArg Array.toList Try.results14) (by simp) (pures0) (pure_B _) fun w S' => AWp.of_vc [] ?_
  simp [go_sem]
  refine CallSem.by (from_ac [exL0] exOf (by decide)) ⟨wk_evsL [exL0], .agg (wk_evL exOf), trivial⟩ (by simp [go_sem]) ?_
  rw [ex15_from]
  simp [go_sem]
  refine CallSem.by (keys_ac exBan) ⟨.agg (wk_evL exBan), trivial⟩ (by simp [go_sem]) ?_
  rw [ex15_keys.1]
  simp [go_sem]
  refine CallSem.pure (rsame_ac exWant exWant) (by simp [go_sem]) ?_
  simp [go_sem]
  refine CallSem.by (keys_ac exText) ⟨.agg (wk_evL exText), trivial⟩ (by simp [go_sem]) ?_
  simp [go_sem, ex15_keys.2.1]
  refine CallSem.by (keys_ac exL0) ⟨.agg (wk_evL exL0), trivial⟩ (by simp [go_sem]) ?_
  rw [ex15_keys.2.2.1]
  simp [go_sem]
  refine CallSem.by (sel_ac exText exS) ⟨.agg (wk_evL exText), .refl _, trivial⟩ (by simp [go_sem]) ?_
  rw [ex15_keys.2.2.2]
  simp [go_sem]
  refine CallSem.pure (same_ac [3, 5] [3, 5]) (by simp [go_sem]) ?_
  simp [go_sem]
  refine CallSem.by (fits_ac [exL0] exText (by decide)) ⟨wk_evsL [exL0], .agg (wk_evL exText), trivial⟩ (by simp [go_sem]) ?_
  rw [ex15_fits.1]
  simp [go_sem]
  refine CallSem.by (fits_ac [] exL0 (by decide)) ⟨.nil _, .agg (wk_evL exL0), trivial⟩ (by simp [go_sem]) ?_
  rw [ex15_fits.2.1]
  simp [go_sem]
  refine CallSem.by (fits_ac [exL0] exOf (by decide)) ⟨wk_evsL [exL0], .agg (wk_evL exOf), trivial⟩ (by simp [go_sem]) ?_
  rw [ex15_fits.2.2.1]
  simp [go_sem]
  refine CallSem.by (fits_ac [] exOf (by decide)) ⟨.nil _, .agg (wk_evL exOf), trivial⟩ (by simp [go_sem]) ?_
  rw [ex15_fits.2.2.2]
  have e5 : exL0.id = 5 := rfl
  simp [go_sem, e5]
  refine PostR.ret ?_
  simp [go_sem, e5]

end Go.Proofs.Ytebggldlhohkpaa
