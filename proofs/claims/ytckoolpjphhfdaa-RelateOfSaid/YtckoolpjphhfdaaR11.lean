/- Contracts of chapter 36: the reference's Reactions. No condition. -/
import Derived.Test.YtckoolpjphhfdaaR10
namespace Go.Proofs.Ytckoolpjphhfdaa
open Go Go.Abs Go.Proofs
set_option linter.unusedSimpArgs false
set_option linter.unusedVariables false
def Again (L : List Evt) (p : Bytes × Bytes) (k : Nat) (b : Bool) : Prop := b = true ↔ ∃ (j : Nat) (hj : j < L.length), j < k ∧ pairE L[j] = p
theorem Again.zero (L : List Evt) (p : Bytes × Bytes) : Again L p 0 false := by
  unfold Again
  constructor
  · intro h; cases h
  · rintro ⟨j, _, h, _⟩; omega
theorem Again.hit {L : List Evt} {p : Bytes × Bytes} {k : Nat} {b : Bool} (h : Again L p k b) (hk : k < L.length) (he : pairE L[k] = p) : Again L p (k + 1) true := ⟨fun _ => ⟨k, hk, by omega, he⟩, fun _ => rfl⟩
theorem Again.skip {L : List Evt} {p : Bytes × Bytes} {k : Nat} {b : Bool} (h : Again L p k b) (hk : k < L.length) (he : ¬ pairE L[k] = p) : Again L p (k + 1) b := by
  unfold Again at *
  rw [h]
  constructor
  · rintro ⟨j, h1, h2, h3⟩; exact ⟨j, h1, by omega, h3⟩
  · rintro ⟨j, h1, h2, h3⟩
    refine ⟨j, h1, ?_, h3⟩
    rcases Nat.lt_succ_iff_lt_or_eq.1 h2 with g | g
    · exact g
    · subst g; exact absurd h3 he
theorem Again.skip2 {L : List Evt} {p : Bytes × Bytes} {k : Nat} {b : Bool} (h : Again L p k b) (hk : k < L.length) (he : ¬ pairE L[k] = p) : (b = false ∧ Again L p (k + 1) false) ∨ (b = true ∧ Again L p (k + 1) true) := by
  have := h.skip hk he
  cases b with
  | false => exact .inl ⟨rfl, this⟩
  | true => exact .inr ⟨rfl, this⟩
theorem pairsR_len (L : List Evt) : (pairsR L).length ≤ L.length := by
  unfold pairsR
  suffices ∀ (L : List Evt) (D : Pairs), (L.foldl addP D).length ≤ D.length + L.length from by simpa using this L []
  intro L
  induction L with
  | nil => intro D; simp
  | cons e L ih =>
    intro D
    have h := ih (addP D e)
    have : (addP D e).length ≤ D.length + 1 := by unfold addP; split <;> simp
    simp only [List.foldl_cons, List.length_cons]; omega
theorem textsL_len (D : Pairs) : (textsL D).length ≤ D.length := by
  have h := textsL_spec D
  have irr : ∀ x, ¬ LtB x x := fun x hx => by unfold LtB at hx; rw [bl_irrefl] at hx; cases hx
  exact texts_len D (h.1.imp fun {x y} (hxy : LtB x y) (he : x = y) => irr y (he ▸ hxy)) fun t ht => (h.2 t).1 ht
theorem reactL_get {D : Pairs} {q : Nat} (h : q < (textsL D).length) : (reactL D)[q]'(by rw [reactL_len]; exact h) = .agg [S (textsL D)[q], I (cnt D (textsL D)[q])] := by unfold reactL; rw [List.getElem_map]; rfl
theorem okAll_react (st : St) (D : Pairs) : okAll st (reactL D) := fun c hc => by obtain ⟨t, _, rfl⟩ := List.mem_map.1 hc; rfl
theorem okAll_rt (st : St) (D : Pairs) (k n : Nat) : okAll st (List.take n (List.drop k (reactL D))) := fun c hc => okAll_react st D c (List.mem_of_mem_drop (List.mem_of_mem_take hc))
def OutAt (s : St) (rows : List AV) : Prop := ∃ id v, (id = 10 ∨ id = 100) ∧ s.σ 3 = .ref id v ∧ s.ver id = v ∧ s.h id = .arr 58 2 rows
set_option maxRecDepth 8000 in
set_option maxHeartbeats 4000000 in
theorem rreactions_ac (L : List Evt) (hsz : L.length ≤ 100000) : AC Try.prog 34 [evs L] (reactAV (pairsR L)) := by
  refine AC.of_body Try.func34 rfl rfl Try.ntmps34 (congrArg Array.toList Try.results34) (by simp) (pures1 (pure_evs _)) (pure_reactAV _) fun w S' => AWp.of_vc [10] ?_
  have hm : L.length ≤ maxLen := by unfold maxLen; omega
  simp [go_sem]
  refine AWp.loop_vc [88] (fun m s => ∃ i : Nat, i ≤ L.length ∧ m = L.length - i ∧ s.σ 0 = evs L ∧ s.σ 4 = I i ∧ OutAt s (reactL (pairsR (L.take i)))) L.length ⟨0, by omega, by omega, by simp [go_sem], by simp [go_sem], ⟨10, 1, .inl rfl, by simp [go_sem], by simp [go_sem], by simp [go_sem, pairsR, reactL, textsL]⟩⟩ ?_
  rintro m s ⟨i, hi, rfl, h0, h4, id, v, hid, h3, hv, hh⟩
  by_cases hlt : i < L.length
  · have hsu := pairsR_succ hlt
    have hmem := fun p => @mem_pairsR (L.take i) p
    have hDl := pairsR_len (L.take i)
    rw [List.length_take] at hDl
    generalize pairsR (L.take i) = D at hh hsu hmem hDl
    rcases hid with rfl | rfl
    · have hv' := hv
      simp [go_sem, h0, h4, h3, hv, hh, hlt]
      refine AWp.loop_vc [] (fun m t => ∃ (k : Nat) (b : Bool), k ≤ i ∧ m = i - k ∧ t.σ 0 = evs L ∧ t.σ 4 = I i ∧ t.σ 5 = S L[i].content.text ∧ t.σ 7 = I k ∧ t.σ 6 = B b ∧ Again L (pairE L[i]) k b ∧ t.σ 3 = .ref 10 v ∧ t.ver 10 = v ∧ t.h 10 = .arr 58 2 (reactL D)) i ⟨0, false, by omega, by omega, by simp [go_sem, h0], by simp [go_sem, h4], by simp [go_sem], by simp [go_sem], by simp [go_sem], Again.zero _ _, by simp [go_sem, h3], by simp [go_sem, hv], by simp [go_sem, hh]⟩ ?_
      clear h0 h4 h3 hv' hv hh
      rintro m t ⟨k, b, hk, rfl, h0, h4, h5, h7, h6, hb, h3, hv, hh⟩
      by_cases hki : k < i
      · have hkl : k < L.length := by omega
        simp [go_sem, h0, h4, h5, h7, h6, h3, hv, hh, hki]
        refine AWp.drawAll rfl (by kernel_rfl) ?_
        have hwk : IntKind.i64.wrap ((k : Int) + 1) = (k : Int) + 1 := wrap_i64 (by omega) (by omega)
        by_cases c1 : L[k].content.text = L[i].content.text
        · by_cases c2 : L[k].sender = L[i].sender
          · simp [go_sem, h0, h4, h5, h7, h6, h3, hv, hh, hki, hkl, hlt, c1, c2, hwk]
            exact ⟨i - (k + 1), by omega, k + 1, by omega, rfl, rfl, hb.hit hkl (by unfold pairE; rw [c1, c2])⟩
          · simp [go_sem, h0, h4, h5, h7, h6, h3, hv, hh, hki, hkl, hlt, c1, c2, hwk]
            exact ⟨i - (k + 1), by omega, k + 1, by omega, rfl, rfl, hb.skip2 hkl (fun h => c2 (congrArg Prod.snd h))⟩
        · simp [go_sem, h0, h4, h5, h7, h6, h3, hv, hh, hki, hkl, hlt, c1, hwk]
          exact ⟨i - (k + 1), by omega, k + 1, by omega, rfl, rfl, hb.skip2 hkl (fun h => c1 (congrArg Prod.fst h))⟩
      · obtain rfl : k = i := by omega
        have hbD : b = true ↔ pairE L[k] ∈ D := by
          unfold Again at hb
          rw [hb, hmem]
          constructor
          · rintro ⟨j, hj, hjk, he⟩
            exact ⟨L[j], List.mem_take_iff_getElem.2 ⟨j, by omega, rfl⟩, he⟩
          · rintro ⟨x, hx, he⟩
            obtain ⟨j, hj, rfl⟩ := List.mem_take_iff_getElem.1 hx
            exact ⟨j, by omega, by omega, he⟩
        have hwk : IntKind.i64.wrap ((k : Int) + 1) = (k : Int) + 1 := wrap_i64 (by omega) (by omega)
        unfold addP at hsu
        cases hbb : b with
        | true =>
          subst hbb
          rw [if_pos (hbD.1 rfl)] at hsu
          simp [go_sem, h0, h4, h5, h7, h6, h3, hv, hh, hwk]
          exact ⟨L.length - (k + 1), by omega, k + 1, by omega, rfl, rfl, by rw [hsu]; exact ⟨10, v, by simp, by simp [go_sem, h3], by simp [go_sem, hv], by simp [go_sem, hh]⟩⟩
        | false =>
          subst hbb
          rw [if_neg (fun h => by have := hbD.2 h; cases this)] at hsu
          have hts := (textsL_spec D).1
          have hRl := reactL_len D
          have hTm : (textsL D).length ≤ 100000 := by have := textsL_len D; omega
          simp [go_sem, h0, h4, h5, h7, h6, h3, hv, hh]
          refine AWp.loop_vc [] (fun m u => ∃ q : Nat, q ≤ (textsL D).length ∧ m = (textsL D).length - q ∧ u.σ 0 = evs L ∧ u.σ 4 = I k ∧ u.σ 5 = S L[k].content.text ∧ u.σ 8 = I q ∧ (∀ j y, j < q → (textsL D)[j]? = some y → Op.bytesLess y (pairE L[k]).1 = true) ∧ u.σ 3 = .ref 10 v ∧ u.ver 10 = v ∧ u.h 10 = .arr 58 2 (reactL D)) (textsL D).length ⟨0, by omega, by omega, by simp [go_sem, h0], by simp [go_sem, h4], by simp [go_sem, h5], by simp [go_sem], fun j y hj => by omega, by simp [go_sem, h3], by simp [go_sem, hv], by simp [go_sem, hh]⟩ ?_
          clear h0 h4 h5 h7 h6 h3 hv hh
          rintro m u ⟨q, hq, rfl, h0, h4, h5, h8, hbel, h3, hv, hh⟩
          have hRlen : (reactL D).length ≤ 100000 := by omega
          have hwq : IntKind.i64.wrap ((q : Int) + 1) = (q : Int) + 1 := wrap_i64 (by omega) (by omega)
          have hqR : q ≤ (reactL D).length := by omega
          by_cases hql : q < (textsL D).length
          · have hq1 : q < (reactL D).length := by omega
            have hRq := reactL_get hql
            have hTq : (textsL D)[q]? = some (textsL D)[q] := List.getElem?_eq_getElem hql
            have hcl := cnt_le D (textsL D)[q]
            generalize (textsL D)[q] = y at hRq hTq hcl
            have hwc : IntKind.i64.wrap ((cnt D y : Int) + 1) = (cnt D y : Int) + 1 := wrap_i64 (by omega) (by omega)
            cases hlt2 : Op.bytesLess y L[k].content.text with
            | true =>
              simp [go_sem, h0, h4, h5, h8, h3, hv, hh, hq1, hRq, hlt2, hwq]
              refine ⟨(textsL D).length - (q + 1), by omega, q + 1, by omega, rfl, rfl, fun j z hj hz => ?_⟩
              rcases Nat.lt_succ_iff_lt_or_eq.1 hj with g | g
              · exact hbel j z g hz
              · subst g; rw [hTq] at hz; cases hz; exact hlt2
            | false =>
              by_cases hy : y = L[k].content.text
              · have hold := reactL_old (D := D) (p := pairE L[k]) hbel (by rw [hTq, hy]; rfl)
                subst hy
                simp [go_sem, h0, h4, h5, h8, h3, hv, hh, hq1, hRq, hlt2, hwc, hwk]
                refine ⟨L.length - (k + 1), by omega, k + 1, by omega, rfl, rfl, ?_⟩
                rw [hsu, hold]
                exact ⟨10, v, by simp, by simp [go_sem, h3], by simp [go_sem, hv], by first | (simp [go_sem, hh]; done) | (simp [go_sem, hh]; rfl)⟩
              · have hnew := reactL_new (D := D) (p := pairE L[k]) hq hbel (fun z hz => by rw [hTq] at hz; cases hz; exact ⟨hlt2, hy⟩)
                have hy2 : (y == L[k].content.text) = false := by simpa using hy
                simp [go_sem, h0, h4, h5, h8, h3, hv, hh, hq1, hRq, hlt2, hy, hy2, hqR, hwk, okAll_rt]
                refine ⟨⟨by omega, by omega⟩, ⟨by omega, by omega⟩, ⟨by omega, by omega⟩, L.length - (k + 1), by omega, k + 1, by omega, rfl, rfl, ?_⟩
                have htk : List.take ((reactL D).length - q) (List.drop q (reactL D)) = List.drop q (reactL D) := List.take_of_length_le (by simp)
                rw [hsu, hnew.2]
                exact ⟨100, _, .inr rfl, by simp [go_sem]; rfl, by simp [go_sem, hv], by first | (simp [go_sem, htk]; done) | (simp [go_sem, htk]; rfl)⟩
          · have hq1 : ¬ q < (reactL D).length := by omega
            have hnew := reactL_new (D := D) (p := pairE L[k]) hq hbel (fun z hz => by rw [List.getElem?_eq_none (by omega)] at hz; cases hz)
            simp [go_sem, h0, h4, h5, h8, h3, hv, hh, hq1, hqR, hwk, okAll_rt]
            refine ⟨⟨by omega, by omega⟩, ⟨by omega, by omega⟩, ⟨by omega, by omega⟩, L.length - (k + 1), by omega, k + 1, by omega, rfl, rfl, ?_⟩
            have htk : List.take ((reactL D).length - q) (List.drop q (reactL D)) = List.drop q (reactL D) := List.take_of_length_le (by simp)
            rw [hsu, hnew.2]
            exact ⟨100, _, .inr rfl, by simp [go_sem]; rfl, by simp [go_sem, hv], by first | (simp [go_sem, htk]; done) | (simp [go_sem, htk]; rfl)⟩
    · have hv' := hv
      simp [go_sem, h0, h4, h3, hv, hh, hlt]
      refine AWp.loop_vc [] (fun m t => ∃ (k : Nat) (b : Bool), k ≤ i ∧ m = i - k ∧ t.σ 0 = evs L ∧ t.σ 4 = I i ∧ t.σ 5 = S L[i].content.text ∧ t.σ 7 = I k ∧ t.σ 6 = B b ∧ Again L (pairE L[i]) k b ∧ t.σ 3 = .ref 100 v ∧ t.ver 100 = v ∧ t.h 100 = .arr 58 2 (reactL D)) i ⟨0, false, by omega, by omega, by simp [go_sem, h0], by simp [go_sem, h4], by simp [go_sem], by simp [go_sem], by simp [go_sem], Again.zero _ _, by simp [go_sem, h3], by simp [go_sem, hv], by simp [go_sem, hh]⟩ ?_
      clear h0 h4 h3 hv' hv hh
      rintro m t ⟨k, b, hk, rfl, h0, h4, h5, h7, h6, hb, h3, hv, hh⟩
      by_cases hki : k < i
      · have hkl : k < L.length := by omega
        simp [go_sem, h0, h4, h5, h7, h6, h3, hv, hh, hki]
        refine AWp.drawAll rfl (by kernel_rfl) ?_
        have hwk : IntKind.i64.wrap ((k : Int) + 1) = (k : Int) + 1 := wrap_i64 (by omega) (by omega)
        by_cases c1 : L[k].content.text = L[i].content.text
        · by_cases c2 : L[k].sender = L[i].sender
          · simp [go_sem, h0, h4, h5, h7, h6, h3, hv, hh, hki, hkl, hlt, c1, c2, hwk]
            exact ⟨i - (k + 1), by omega, k + 1, by omega, rfl, rfl, hb.hit hkl (by unfold pairE; rw [c1, c2])⟩
          · simp [go_sem, h0, h4, h5, h7, h6, h3, hv, hh, hki, hkl, hlt, c1, c2, hwk]
            exact ⟨i - (k + 1), by omega, k + 1, by omega, rfl, rfl, hb.skip2 hkl (fun h => c2 (congrArg Prod.snd h))⟩
        · simp [go_sem, h0, h4, h5, h7, h6, h3, hv, hh, hki, hkl, hlt, c1, hwk]
          exact ⟨i - (k + 1), by omega, k + 1, by omega, rfl, rfl, hb.skip2 hkl (fun h => c1 (congrArg Prod.fst h))⟩
      · obtain rfl : k = i := by omega
        have hbD : b = true ↔ pairE L[k] ∈ D := by
          unfold Again at hb
          rw [hb, hmem]
          constructor
          · rintro ⟨j, hj, hjk, he⟩
            exact ⟨L[j], List.mem_take_iff_getElem.2 ⟨j, by omega, rfl⟩, he⟩
          · rintro ⟨x, hx, he⟩
            obtain ⟨j, hj, rfl⟩ := List.mem_take_iff_getElem.1 hx
            exact ⟨j, by omega, by omega, he⟩
        have hwk : IntKind.i64.wrap ((k : Int) + 1) = (k : Int) + 1 := wrap_i64 (by omega) (by omega)
        unfold addP at hsu
        cases hbb : b with
        | true =>
          subst hbb
          rw [if_pos (hbD.1 rfl)] at hsu
          simp [go_sem, h0, h4, h5, h7, h6, h3, hv, hh, hwk]
          exact ⟨L.length - (k + 1), by omega, k + 1, by omega, rfl, rfl, by rw [hsu]; exact ⟨100, v, by simp, by simp [go_sem, h3], by simp [go_sem, hv], by simp [go_sem, hh]⟩⟩
        | false =>
          subst hbb
          rw [if_neg (fun h => by have := hbD.2 h; cases this)] at hsu
          have hts := (textsL_spec D).1
          have hRl := reactL_len D
          have hTm : (textsL D).length ≤ 100000 := by have := textsL_len D; omega
          simp [go_sem, h0, h4, h5, h7, h6, h3, hv, hh]
          refine AWp.loop_vc [] (fun m u => ∃ q : Nat, q ≤ (textsL D).length ∧ m = (textsL D).length - q ∧ u.σ 0 = evs L ∧ u.σ 4 = I k ∧ u.σ 5 = S L[k].content.text ∧ u.σ 8 = I q ∧ (∀ j y, j < q → (textsL D)[j]? = some y → Op.bytesLess y (pairE L[k]).1 = true) ∧ u.σ 3 = .ref 100 v ∧ u.ver 100 = v ∧ u.h 100 = .arr 58 2 (reactL D)) (textsL D).length ⟨0, by omega, by omega, by simp [go_sem, h0], by simp [go_sem, h4], by simp [go_sem, h5], by simp [go_sem], fun j y hj => by omega, by simp [go_sem, h3], by simp [go_sem, hv], by simp [go_sem, hh]⟩ ?_
          clear h0 h4 h5 h7 h6 h3 hv hh
          rintro m u ⟨q, hq, rfl, h0, h4, h5, h8, hbel, h3, hv, hh⟩
          have hRlen : (reactL D).length ≤ 100000 := by omega
          have hwq : IntKind.i64.wrap ((q : Int) + 1) = (q : Int) + 1 := wrap_i64 (by omega) (by omega)
          have hqR : q ≤ (reactL D).length := by omega
          by_cases hql : q < (textsL D).length
          · have hq1 : q < (reactL D).length := by omega
            have hRq := reactL_get hql
            have hTq : (textsL D)[q]? = some (textsL D)[q] := List.getElem?_eq_getElem hql
            have hcl := cnt_le D (textsL D)[q]
            generalize (textsL D)[q] = y at hRq hTq hcl
            have hwc : IntKind.i64.wrap ((cnt D y : Int) + 1) = (cnt D y : Int) + 1 := wrap_i64 (by omega) (by omega)
            cases hlt2 : Op.bytesLess y L[k].content.text with
            | true =>
              simp [go_sem, h0, h4, h5, h8, h3, hv, hh, hq1, hRq, hlt2, hwq]
              refine ⟨(textsL D).length - (q + 1), by omega, q + 1, by omega, rfl, rfl, fun j z hj hz => ?_⟩
              rcases Nat.lt_succ_iff_lt_or_eq.1 hj with g | g
              · exact hbel j z g hz
              · subst g; rw [hTq] at hz; cases hz; exact hlt2
            | false =>
              by_cases hy : y = L[k].content.text
              · have hold := reactL_old (D := D) (p := pairE L[k]) hbel (by rw [hTq, hy]; rfl)
                subst hy
                simp [go_sem, h0, h4, h5, h8, h3, hv, hh, hq1, hRq, hlt2, hwc, hwk]
                refine ⟨L.length - (k + 1), by omega, k + 1, by omega, rfl, rfl, ?_⟩
                rw [hsu, hold]
                exact ⟨100, v, by simp, by simp [go_sem, h3], by simp [go_sem, hv], by first | (simp [go_sem, hh]; done) | (simp [go_sem, hh]; rfl)⟩
              · have hnew := reactL_new (D := D) (p := pairE L[k]) hq hbel (fun z hz => by rw [hTq] at hz; cases hz; exact ⟨hlt2, hy⟩)
                have hy2 : (y == L[k].content.text) = false := by simpa using hy
                simp [go_sem, h0, h4, h5, h8, h3, hv, hh, hq1, hRq, hlt2, hy, hy2, hqR, hwk, okAll_rt]
                refine ⟨⟨by omega, by omega⟩, ⟨by omega, by omega⟩, ⟨by omega, by omega⟩, L.length - (k + 1), by omega, k + 1, by omega, rfl, rfl, ?_⟩
                have htk : List.take ((reactL D).length - q) (List.drop q (reactL D)) = List.drop q (reactL D) := List.take_of_length_le (by simp)
                rw [hsu, hnew.2]
                exact ⟨100, _, .inr rfl, by simp [go_sem]; rfl, by simp [go_sem, hv], by first | (simp [go_sem, htk]; done) | (simp [go_sem, htk]; rfl)⟩
          · have hq1 : ¬ q < (reactL D).length := by omega
            have hnew := reactL_new (D := D) (p := pairE L[k]) hq hbel (fun z hz => by rw [List.getElem?_eq_none (by omega)] at hz; cases hz)
            simp [go_sem, h0, h4, h5, h8, h3, hv, hh, hq1, hqR, hwk, okAll_rt]
            refine ⟨⟨by omega, by omega⟩, ⟨by omega, by omega⟩, ⟨by omega, by omega⟩, L.length - (k + 1), by omega, k + 1, by omega, rfl, rfl, ?_⟩
            have htk : List.take ((reactL D).length - q) (List.drop q (reactL D)) = List.drop q (reactL D) := List.take_of_length_le (by simp)
            rw [hsu, hnew.2]
            exact ⟨100, _, .inr rfl, by simp [go_sem]; rfl, by simp [go_sem, hv], by first | (simp [go_sem, htk]; done) | (simp [go_sem, htk]; rfl)⟩
  · obtain rfl : i = L.length := by omega
    rw [List.take_of_length_le (Nat.le_refl _)] at hh
    rcases hid with rfl | rfl
    · simp [go_sem, h0, h4, h3, hv, hh]
      refine PostR.retW [10] ?_ (.refl _)
      simp [go_sem, h3, hv, hh]
    · simp [go_sem, h0, h4, h3, hv, hh]
      refine PostR.retW [100] ?_ (.refl _)
      simp [go_sem, h3, hv, hh]

end Go.Proofs.Ytckoolpjphhfdaa
