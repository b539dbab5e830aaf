/- Contracts of chapter 15: the program's Fits. No condition. -/
import Derived.Test.YtebggldlhohkpaaA5
namespace Go.Proofs.Ytebggldlhohkpaa
open Go Go.Abs
set_option linter.unusedSimpArgs false
theorem AWp_post {G : Ctx} {c : Code} {Q : Exit → St → Prop} {st : St} (h : ∀ Q' : Exit → St → Prop, Q' = Q → AWp G c Q' st) : AWp G c Q st := h Q rfl
theorem AWp_state {G : Ctx} {c : Code} {Q : Exit → St → Prop} {st : St} (P : St → Prop) (h : P st) (k : ∀ t, P t → AWp G c Q t) : AWp G c Q st := k st h
theorem fz_put (st : St) (d : Option Tmp) (v : AV) (id : Nat) (a : AV) : fz (st.put d v) id a = fz st id a := by
  cases d <;> rfl
def dropStep (L : List EntD) (x : Evt) : Option (List EntD) := if idxI (fitsKey x) L < 0 then none else some (L.eraseIdx (idxI (fitsKey x) L).toNat)
def lastErr (made : Bool) : Int := if made = true then 0 else 16
def tryKeys (made : Bool) (a : List Evt) (o : Option (List EntD)) : Int :=
  match o with
  | none => 16
  | some _ => lastErr (made || a.any fun x => x.kind == 1)
def gapOf (l : List Evt) (ids : List Int) : Bool := ids.any fun id => (getE l id).isNone
def roomOf (a : List Evt) (room : Bytes) : Bool := a.any fun x => x.room != room
def fitsOf (l : List Evt) (e : Evt) : Int :=
  if gapOf l e.auth = true then 14 else
  if roomOf (ofIds l e.auth) e.room = true then 13 else
  tryKeys (e.kind == 1) (ofIds l e.auth) ((ofIds l e.auth).foldlM dropStep (keysOf e))
theorem foldM_succ {σ α : Type} (f : σ → α → Option σ) {s s' : σ} {l : List α} {q : Nat} (h : q < l.length) (hs : (l.take q).foldlM f s = some s') : (l.take (q + 1)).foldlM f s = f s' l[q] := by
  rw [List.take_succ_eq_append_getElem h, List.foldlM_append, hs]
  simp
theorem foldM_none {σ α : Type} (f : σ → α → Option σ) {s s' : σ} {l : List α} {q : Nat} (h : q < l.length) (hs : (l.take q).foldlM f s = some s') (hn : f s' l[q] = none) : l.foldlM f s = none := by
  have h1 := foldM_succ f h hs
  rw [hn] at h1
  rw [← List.take_append_drop (q + 1) l, List.foldlM_append, h1]
  rfl
theorem dropStep_len {L L' : List EntD} {x : Evt} (h : dropStep L x = some L') : L'.length ≤ L.length := by
  unfold dropStep at h
  split at h
  · cases h
  · cases h; exact List.length_eraseIdx_le _ _
theorem any_take {α : Type} {l : List α} {p : α → Bool} {k : Nat} (hk : k < l.length) : (l.take (k + 1)).any p = ((l.take k).any p || p l[k]) := by
  rw [List.take_succ_eq_append_getElem hk]
  simp only [List.any_append, List.any_cons, List.any_nil, Bool.or_false]
theorem gap_named {l : List Evt} {ids : List Int} (h : gapOf l ids = false) : (ofIds l ids).length = ids.length := by
  unfold gapOf at h
  unfold ofIds
  induction ids with
  | nil => rfl
  | cons id ids ih =>
    simp only [List.any_cons, Bool.or_eq_false_iff] at h
    cases hg : getE l id with
    | none => rw [hg] at h; cases h.1
    | some x => simp only [List.filterMap_cons, hg, List.length_cons]; rw [ih h.2]
set_option maxRecDepth 8000 in
set_option maxHeartbeats 4000000 in
theorem fits_ac (l : List Evt) (e : Evt) (hsz : e.auth.length ≤ 100000) : AC Try.prog 19 [evs l, ev e] (I (fitsOf l e)) := by
  refine AC.of_body Try.func19 rfl rfl Try.ntmps19 (congrArg Array.toList Try.results19) (by simp) (pures2 (pure_evs _) (pure_ev _)) (pure_I _) fun w S' => AWp.of_vc [] ?_
  have hm : e.auth.length ≤ maxLen := by unfold maxLen; omega
  have hkl := keysOf_len e
  simp [go_sem]
  refine AWp.ownNil 5 34 29 (by simp [go_sem]) ?_
  refine AWp.loop_vc [] (fun m s => ∃ q v : Nat, q ≤ e.auth.length ∧ m = e.auth.length - q ∧ s.σ 0 = evs l ∧ s.σ 3 = .eptr (evc e) 0 ∧ s.σ 16 = ints e.auth ∧ s.σ 17 = I e.auth.length ∧ s.σ 18 = I q ∧ s.σ 5 = .ref 5 v ∧ s.ver 5 = v ∧ s.h 5 = .arr 34 29 ((ofIds l (e.auth.take q)).map ev) ∧ gapOf l (e.auth.take q) = false) e.auth.length ⟨0, 1, by simp [go_sem, ofIds, gapOf]⟩ ?_
  rintro m s ⟨q, v, hq, rfl, h0, h3, h16, h17, h18, h5, hv5, hh5, hgap⟩
  have hol := ofIds_len l (e.auth.take q)
  rw [List.length_take] at hol
  by_cases hlt : q < e.auth.length
  · have hsu := ofIds_succ (l := l) hlt
    simp [go_sem, h0, h3, h16, h17, h18, h5, hv5, hh5, hlt]
    refine CallSem.pure (sget_ac l e.auth[q]) (by simp [go_sem]) ?_
    cases hg : getE l e.auth[q] with
    | none =>
      have hbad : fitsOf l e = 14 := by
        unfold fitsOf
        have hgt : gapOf l e.auth = true := List.any_eq_true.2 ⟨e.auth[q], List.getElem_mem hlt, by simp only [hg, Option.isNone_none]⟩
        rw [if_pos hgt]
      simp [go_sem, h0, h3, h16, h17, h18, h5, hv5, hh5, hlt]
      refine PostR.ret ?_
      simp [go_sem, hbad]
    | some x =>
      rw [hg] at hsu
      simp [go_sem, h0, h3, h16, h17, h18, h5, hv5, hh5, hlt, wrap_succ hlt hm]
      refine ⟨⟨by omega, by omega⟩, e.auth.length - (q + 1), by omega, q + 1, by omega, rfl, rfl, by rw [hsu]; simp [ev, evc], ?_⟩
      unfold gapOf at hgap ⊢
      rw [any_take hlt, hgap, hg]; rfl
  · rw [List.take_of_length_le (by omega)] at hh5 hgap
    have hnl := gap_named hgap
    generalize hA : ofIds l e.auth = A at hh5 hnl
    have hfit : fitsOf l e = if roomOf A e.room = true then 13 else tryKeys (e.kind == 1) A (A.foldlM dropStep (keysOf e)) := by
      unfold fitsOf; rw [if_neg (by simp [hgap]), hA]
    have hAm : A.length ≤ maxLen := by unfold maxLen; omega
    simp [go_sem, h0, h3, h16, h17, h18, h5, hv5, hh5, hlt]
    refine AWp.freeze 5 ?_
    refine AWp.loop_vc [] (fun m s => ∃ q : Nat, q ≤ A.length ∧ m = A.length - q ∧ s.σ 3 = .eptr (evc e) 0 ∧ s.σ 5 = evs A ∧ s.σ 36 = I A.length ∧ s.σ 37 = I q ∧ ∀ (j : Nat) x, j < q → A[j]? = some x → (x.room != e.room) = false) A.length ⟨0, by simp [go_sem, h3, h5, hv5, hh5]⟩ ?_
    clear h0 h3 h16 h17 h18 h5 hv5 hh5
    rintro m s ⟨q, hq, rfl, h3, h5, h36, h37, hno⟩
    by_cases hlt : q < A.length
    · simp [go_sem, h3, h5, h36, h37, hlt]
      refine AWp.drawAll rfl (by kernel_rfl) ?_
      simp [go_sem, h3, h5, h36, h37, hlt]
      by_cases hr : A[q].room = e.room
      · simp [go_sem, h3, h5, h36, h37, hlt, hr, wrap_succ hlt hAm]
        exact ⟨A.length - (q + 1), by omega, q + 1, by omega, rfl, rfl, below_step hlt (fun j x hj hx => by simpa using hno j x hj hx) hr⟩
      · have hbad : fitsOf l e = 13 := by
          have hrt : roomOf A e.room = true := List.any_eq_true.2 ⟨A[q], List.getElem_mem hlt, by simp [hr]⟩
          rw [hfit, if_pos hrt]
        simp [go_sem, h3, h5, h36, h37, hlt, hr]
        refine PostR.ret ?_
        simp [go_sem, hbad]
    · have hrt : roomOf A e.room = false := List.any_eq_false.2 fun x hx => by
        obtain ⟨j, hj, rfl⟩ := List.mem_iff_getElem.1 hx
        simpa using hno j _ (by omega) (List.getElem?_eq_getElem hj)
      rw [if_neg (by simp [hrt])] at hfit
      simp [go_sem, h3, h5, h36, h37, hlt]
      refine CallSem.pure (keysP_ac e) (by simp [go_sem]) ?_
      simp [go_sem, h3, h5, h36, h37, hlt]
      refine AWp.loop_vc [] (fun m s => ∃ (q : Nat) (L : List EntD) (b : Bool), q ≤ A.length ∧ m = A.length - q ∧ s.σ 5 = evs A ∧ s.σ 11 = B b ∧ fz s 75 (s.σ 12) = kps L ∧ s.σ 55 = I A.length ∧ s.σ 56 = I q ∧ L.length ≤ 5 ∧ (A.take q).foldlM dropStep (keysOf e) = some L ∧ b = (e.kind == 1 || (A.take q).any fun x => x.kind == 1)) A.length ⟨0, keysOf e, e.kind == 1, by simp [go_sem, h3, h5, h36, h37, hkl]; try rfl⟩ ?_
      clear h3 h5 h36 h37 hno hlt
      rintro m s ⟨q, L, b, hq, rfl, h5, h11, h12, h55, h56, hL5, hL, hb⟩
      generalize ha : s.σ 12 = a12 at h12
      by_cases hlt : q < A.length
      · simp [go_sem, h5, h11, ha, h55, h56, hlt]
        refine CallSem.freeze 75 ?_
        simp [go_sem, fz_put, h12]
        refine CallSem.pure (place_ac L A[q]) (by simp [go_sem]) ?_
        rcases idxI_find (fitsKey A[q]) L with ⟨hf, hi⟩ | ⟨k, hk, hf, hi⟩
        · have hbad : fitsOf l e = 16 := by
            have hn : dropStep L A[q] = none := by unfold dropStep; rw [hi]; rfl
            rw [hfit, foldM_none dropStep hlt hL hn]; rfl
          simp [go_sem, hi, fz_put, h5, h11, ha, h12, h55, h56, hlt]
          refine PostR.ret ?_
          simp [go_sem, hbad]
        · have hneg : ¬ ((k : Int) < 0) := by omega
          have hd : dropStep L A[q] = some (L.eraseIdx k) := by unfold dropStep; rw [hi, if_neg (by omega)]; rfl
          have hL' := foldM_succ dropStep hlt hL
          rw [hd] at hL'
          have hLl : (L.eraseIdx k).length ≤ 5 := Nat.le_trans (List.length_eraseIdx_le _ _) hL5
          have hb' := any_take (p := fun x : Evt => x.kind == 1) hlt
          have hLm : L.length ≤ maxLen := by unfold maxLen; omega
          have hkL : k ≤ L.length := by omega
          have hk1 : k + 1 ≤ L.length := by omega
          have t1 : (0 : Int) ≤ (k : Int) + 1 := by omega
          have t2 : ((k : Int) + 1).toNat = k + 1 := by omega
          have hcut : L.eraseIdx k = L.take k ++ L.drop (k + 1) := List.eraseIdx_eq_take_drop_succ _ _
          simp [go_sem, hi, fz_put, h5, h11, ha, h12, h55, h56, hlt, hneg]
          refine AWp_state (fun t => t.σ 5 = evs A ∧ t.σ 11 = B b ∧ t.σ 12 = kps L ∧ t.σ 13 = I q ∧ t.σ 14 = I k ∧ t.σ 55 = I A.length ∧ t.σ 56 = I q) (by simp [go_sem, hi, fz_put, h5, h11, ha, h12, h55, h56, hlt]) ?_
          clear h5 h11 ha h12 h55 h56 hneg
          rintro t ⟨h5, h11, h12, h13, h14, h55, h56⟩
          have hlen75 : (L.take k ++ L.drop (k + 1)).length ≤ 5 := by rw [← hcut]; exact hLl
          have hL2 : L.take k ++ (L.drop (k + 1)).take (L.length - (k + 1)) = L.eraseIdx k := by rw [hcut, List.take_of_length_le (Nat.le_of_eq (List.length_drop))]
          refine AWp_post ?_
          intro Q' hQ'
          have rest : ∀ t : St, t.σ 5 = evs A → t.σ 11 = B b → fz t 75 (t.σ 12) = kps (L.eraseIdx k) → t.σ 13 = I q → t.σ 55 = I A.length → t.σ 56 = I q → Q' .normal t := by
            intro t h5 h11 h12 h13 h55 h56
            subst hQ'
            generalize ha : t.σ 12 = a12 at h12
            have hbb : (e.kind == 1 || (A.take (q + 1)).any fun x => x.kind == 1) = (b || A[q].kind == 1) := by rw [hb', ← Bool.or_assoc, ← hb]
            cases b with
            | true =>
              simp [go_sem, fz_put, h5, h11, ha, h13, h55, h56, hlt, wrap_succ hlt hAm]
              exact ⟨A.length - (q + 1), by omega, q + 1, by omega, rfl, L.eraseIdx k, h12, rfl, hLl, hL', by simpa using hbb⟩
            | false =>
              by_cases hx : A[q].kind = 1
              · simp [go_sem, fz_put, h5, h11, ha, h13, h55, h56, hlt, wrap_succ hlt hAm, hx]
                exact ⟨A.length - (q + 1), by omega, q + 1, by omega, rfl, L.eraseIdx k, h12, rfl, hLl, hL', by simpa [hx] using hbb⟩
              · simp [go_sem, fz_put, h5, h11, ha, h13, h55, h56, hlt, wrap_succ hlt hAm, hx]
                have hxf : (A[q].kind == 1) = false := by simpa using hx
                rw [hxf] at hbb
                exact ⟨A.length - (q + 1), by omega, q + 1, by omega, rfl, L.eraseIdx k, h12, rfl, hLl, hL', by simpa using hbb⟩
          refine AWp.draw (n := 8) [] rfl (by kernel_rfl) ?_
          simp [go_sem, h5, h11, h12, h13, h14, h55, h56, hlt, hkL, hk1, t1, t2, wrap_succ hk hLm]
          refine ⟨⟨by omega, by omega⟩, fun hy => ?_, fun _ hy => ?_⟩
          · refine rest _ (by simp [go_sem, h5]) (by simp [go_sem, h11]) ?_ (by simp [go_sem, h13]) (by simp [go_sem, h55]) (by simp [go_sem, h56])
            have hy' : L.drop (k + 1) = [] := List.drop_eq_nil_of_le (by omega)
            simp [go_sem, hcut, hy']
          · refine rest _ (by simp [go_sem, h5]) (by simp [go_sem, h11]) ?_ (by simp [go_sem, h13]) (by simp [go_sem, h55]) (by simp [go_sem, h56])
            simp [go_sem, ← hL2]
      · rw [List.take_of_length_le (by omega)] at hL hb
        have hend : fitsOf l e = lastErr b := by rw [hfit, hL, hb]; rfl
        cases b with
        | true =>
          simp [go_sem, h5, h11, h55, h56, hlt]
          refine PostR.ret ?_
          simp [go_sem, hend, lastErr]
        | false =>
          simp [go_sem, h5, h11, h55, h56, hlt]
          refine PostR.ret ?_
          simp [go_sem, hend, lastErr]

end Go.Proofs.Ytebggldlhohkpaa
