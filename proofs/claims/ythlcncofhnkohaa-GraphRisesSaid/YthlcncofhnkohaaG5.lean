/- Contracts of chapter 09: the reference's With, Missing, Refs, Closed. No condition. -/
import Derived.Test.YthlcncofhnkohaaG4
namespace Go.Proofs.Ythlcncofhnkohaa
open Go Go.Abs
set_option linter.unusedSimpArgs false
def midI (L : List Int) (y : Int) (q : Nat) : List Int := L.take q ++ y :: L.drop q
theorem midI_len {L : List Int} {y : Int} {q : Nat} (h : q ≤ L.length) : (midI L y q).length = L.length + 1 := by
  simp only [midI, List.length_append, List.length_take, List.length_cons, List.length_drop]; omega
theorem midI_full (L : List Int) (y : Int) : midI L y L.length = L ++ [y] := by simp [midI]
theorem midI_below {L : List Int} {y : Int} {p : Nat} (h : p < L.length) : (midI L y (p + 1))[p]? = some L[p] := by
  unfold midI
  rw [List.getElem?_append_left (by simp; omega), List.getElem?_take_of_lt (by omega), List.getElem?_eq_getElem h]
theorem midI_set (L : List Int) (y n : Int) (q : Nat) (h : q ≤ L.length) : (midI L y q).set q n = midI L n q := by
  unfold midI
  have hl : (L.take q).length = q := by simp; omega
  rw [List.set_append_right _ _ (by omega), hl, Nat.sub_self, List.set_cons_zero]
theorem midI_move {L : List Int} {y : Int} {p : Nat} (h : p < L.length) : (midI L y (p + 1)).set (p + 1) L[p] = midI L L[p] p := by
  rw [midI_set _ _ _ _ (by omega)]
  unfold midI
  rw [List.take_succ_eq_append_getElem h, List.append_assoc, List.drop_eq_getElem_cons h]
  rfl
theorem put_here {L : List Int} {n : Int} {k : Nat} (hs : L.Pairwise (· < ·)) (hk : k < L.length) (he : L[k] = n) : putL L n = L := by
  unfold putL
  have : L.contains n = true := by
    have hmem : n ∈ L := by rw [← he]; exact List.getElem_mem hk
    simpa using hmem
  rw [if_pos this]
theorem put_mid {L : List Int} {n : Int} {k : Nat} (hs : L.Pairwise (· < ·)) (hk : k ≤ L.length) (hup : AllUp (fun x => decide (x < n)) L k) (hno : ∀ h : k < L.length, n < L[k]) : putL L n = midI L n k := by
  have hlo : ∀ (j : Nat) x, L[j]? = some x → j < k → x < n := fun j x hx hj => by
    unfold AllUp at hup
    rw [List.all_eq_true] at hup
    have : x ∈ L.take k := List.mem_of_getElem? (i := j) (by rw [List.getElem?_take_of_lt hj]; exact hx)
    simpa using hup x this
  have hhi : ∀ (j : Nat) x, L[j]? = some x → k ≤ j → n < x := fun j x hx hj => by
    have hjl : j < L.length := (List.getElem?_eq_some_iff.1 hx).1
    have h0 := hno (by omega)
    have hxj : L[j] = x := (List.getElem?_eq_some_iff.1 hx).2
    rcases Nat.eq_or_lt_of_le hj with rfl | hlt
    · rw [← hxj]; exact h0
    · have := List.pairwise_iff_getElem.1 hs k j (by omega) hjl hlt
      rw [hxj] at this; omega
  have hnc : L.contains n = false := by
    rw [Bool.eq_false_iff]
    intro hc
    have hc : n ∈ L := by simpa using hc
    obtain ⟨j, hj⟩ := List.mem_iff_getElem?.1 hc
    rcases Nat.lt_or_ge j k with h | h
    · have := hlo j n hj h; omega
    · have := hhi j n hj h; omega
  unfold putL
  rw [if_neg (by simpa using hnc)]
  unfold midI
  obtain ⟨ht, hd⟩ := takeWhile_take L n k hk (fun j hj x hx => hlo j x hx hj) (fun x hx => by have := hhi k x hx (Nat.le_refl _); omega)
  rw [ht, hd]
set_option maxRecDepth 8000 in
set_option maxHeartbeats 4000000 in
theorem with_sem {G : Ctx} (hG : G.P = Try.prog) {st : St} {dst : Option Tmp} {K : St → Prop} {id v : Nat} {L : List Int} {n : Int} (hd : dstOK G.n dst) (hid : id < 20000) (hv : st.ver id = v) (hh : st.h id = .arr 3 1 (L.map I)) (hs : L.Pairwise (· < ·)) (hsz : L.length ≤ 1000000)
    (hK : ∀ s v', s.ver id = v' → s.h id = .arr 3 1 ((putL L n).map I) → K ((st.mem s).put dst (.ref id v'))) : CallSem G 55 [.ref id v, I n] dst K st := by
  obtain ⟨P, w0, S0, nn, rnd, ids, e0⟩ := G
  subst hG
  have hm : L.length ≤ maxLen := by unfold maxLen; omega
  refine CallSem.inline 20000 Try.func55 rfl rfl Try.ntmps55 (congrArg Array.toList Try.results55) (by simp) hd fun e1 => AWp.of_vc [] ?_
  simp [go_sem]
  refine AWp.loop_vc [] (fun m s => ∃ k : Nat, k ≤ L.length ∧ m = L.length - k ∧ s.σ 0 = .ref id v ∧ s.σ 1 = I n ∧ s.σ 5 = I k ∧ s.ver id = v ∧ s.h id = .arr 3 1 (L.map I) ∧ AllUp (fun x => decide (x < n)) L k) L.length ⟨0, by simp [go_sem, AllUp.zero, hv, hh]⟩ ?_
  rintro m s ⟨k, hk, rfl, h0, h1, h5, hv, hh, hup⟩
  by_cases hlt : k < L.length
  · by_cases hc : L[k] < n
    · simp [go_sem, h0, h1, h5, hv, hh, hlt, hc, wrap_succ hlt hm]
      exact ⟨L.length - (k + 1), by omega, k + 1, by omega, rfl, rfl, hup.succ hlt (by simpa using hc)⟩
    · by_cases he : L[k] = n
      · have hput := put_here hs hlt he
        simp [go_sem, h0, h1, h5, hv, hh, hlt, hc, he]
        refine PostIn.ret (r := .ref id v) (by simp [go_sem, resIn]) ?_
        exact hK _ v (by simp [go_sem, hv]) (by simp [go_sem, hh, hput])
      · have hno : ∀ h : k < L.length, n < L[k] := fun _ => by omega
        simp [go_sem, h0, h1, h5, hv, hh, hlt, hc, he]
        refine ⟨⟨by omega, by omega⟩, ?_⟩
        refine AWp.loop_vc [] (fun m s => ∃ (q : Nat) (y : Int), k ≤ q ∧ q ≤ L.length ∧ m = q ∧ s.σ 0 = .ref id (v + 1) ∧ s.σ 1 = I n ∧ s.σ 5 = I k ∧ s.σ 6 = I q ∧ s.ver id = v + 1 ∧ s.h id = .arr 3 1 ((midI L y q).map I)) L.length ⟨L.length, n, by simp [go_sem, h0, h1, h5, hv, hh, hk, wrap_natN hm, midI_full]⟩ ?_
        clear h0 h1 h5 hv hh
        rintro m s ⟨q, y, hkq, hq, hmq, h0, h1, h5, h6, hv, hh⟩
        by_cases hlq : k < q
        · obtain ⟨p, rfl⟩ : ∃ p, q = p + 1 := ⟨q - 1, by omega⟩
          have hp : p < L.length := (by omega)
          have hbl := midI_below (y := y) hp
          have hmv := midI_move (y := y) hp
          have hml := midI_len (y := y) hq
          generalize hz : L[p] = z at hbl hmv
          generalize midI L y (p + 1) = M at hh hbl hmv hml
          have hpM : p < M.length := (by omega)
          have hqM : p + 1 < M.length := (by omega)
          have hqMi : (p : Int) + 1 < (M.length : Int) := (by omega)
          have hbl' : M[p] = z := by rw [List.getElem?_eq_getElem hpM] at hbl; exact Option.some.inj hbl
          have hlqi : (k : Int) < (p : Int) + 1 := (by omega)
          have h6' : s.σ 6 = I ((p : Int) + 1) := h6
          have hpos2 : (0 : Int) ≤ (p : Int) + 1 := (by omega)
          have htn : ((p : Int) + 1).toNat = p + 1 := (by omega)
          have hw : IntKind.i64.wrap (p : Int) = p := wrap_natN (by omega)
          simp [go_sem, h0, h1, h5, h6', hv, hh, hlqi, hpos2, htn, hw, hpM, hqM, hqMi, hbl']
          exact ⟨p, by omega, p, by omega, by omega, rfl, rfl, z, by rw [← hmv]; simp [List.map_set, I]⟩
        · obtain rfl : q = k := (by omega)
          have hset := midI_set L y n q hq
          have hml := midI_len (y := y) hq
          have hput := put_mid hs hq hup hno
          rw [← hput] at hset
          generalize midI L y q = M at hh hset hml
          have hqM : q < M.length := (by omega)
          simp [go_sem, h0, h1, h5, h6, hv, hh, hlq, hqM]
          refine PostIn.ret (r := .ref id (v + 1)) (by simp [go_sem, resIn]) ?_
          exact hK _ (v + 1) (by simp [go_sem, hv]) (by simp [go_sem, hh]; rw [← hset]; simp [List.map_set, I])
  · have hno : ∀ h : k < L.length, n < L[k] := fun h => absurd h hlt
    simp [go_sem, h0, h1, h5, hv, hh, hlt]
    refine ⟨⟨by omega, by omega⟩, ?_⟩
    refine AWp.loop_vc [] (fun m s => ∃ (q : Nat) (y : Int), k ≤ q ∧ q ≤ L.length ∧ m = q ∧ s.σ 0 = .ref id (v + 1) ∧ s.σ 1 = I n ∧ s.σ 5 = I k ∧ s.σ 6 = I q ∧ s.ver id = v + 1 ∧ s.h id = .arr 3 1 ((midI L y q).map I)) L.length ⟨L.length, n, by simp [go_sem, h0, h1, h5, hv, hh, hk, wrap_natN hm, midI_full]⟩ ?_
    clear h0 h1 h5 hv hh
    rintro m s ⟨q, y, hkq, hq, hmq, h0, h1, h5, h6, hv, hh⟩
    by_cases hlq : k < q
    · obtain ⟨p, rfl⟩ : ∃ p, q = p + 1 := ⟨q - 1, by omega⟩
      have hp : p < L.length := (by omega)
      have hbl := midI_below (y := y) hp
      have hmv := midI_move (y := y) hp
      have hml := midI_len (y := y) hq
      generalize hz : L[p] = z at hbl hmv
      generalize midI L y (p + 1) = M at hh hbl hmv hml
      have hpM : p < M.length := (by omega)
      have hqM : p + 1 < M.length := (by omega)
      have hqMi : (p : Int) + 1 < (M.length : Int) := (by omega)
      have hbl' : M[p] = z := by rw [List.getElem?_eq_getElem hpM] at hbl; exact Option.some.inj hbl
      have hlqi : (k : Int) < (p : Int) + 1 := (by omega)
      have h6' : s.σ 6 = I ((p : Int) + 1) := h6
      have hpos2 : (0 : Int) ≤ (p : Int) + 1 := (by omega)
      have htn : ((p : Int) + 1).toNat = p + 1 := (by omega)
      have hw : IntKind.i64.wrap (p : Int) = p := wrap_natN (by omega)
      simp [go_sem, h0, h1, h5, h6', hv, hh, hlqi, hpos2, htn, hw, hpM, hqM, hqMi, hbl']
      exact ⟨p, by omega, p, by omega, by omega, rfl, rfl, z, by rw [← hmv]; simp [List.map_set, I]⟩
    · obtain rfl : q = k := (by omega)
      have hset := midI_set L y n q hq
      have hml := midI_len (y := y) hq
      have hput := put_mid hs hq hup hno
      rw [← hput] at hset
      generalize midI L y q = M at hh hset hml
      have hqM : q < M.length := (by omega)
      simp [go_sem, h0, h1, h5, h6, hv, hh, hlq, hqM]
      refine PostIn.ret (r := .ref id (v + 1)) (by simp [go_sem, resIn]) ?_
      exact hK _ (v + 1) (by simp [go_sem, hv]) (by simp [go_sem, hh]; rw [← hset]; simp [List.map_set, I])
theorem sortedL_snoc (a : List Int) (n : Int) : sortedL (a ++ [n]) = putL (sortedL a) n := by unfold sortedL; rw [List.foldl_append]; rfl
theorem sortedL_lenG (a : List Int) : (sortedL a).length ≤ a.length := by have := foldl_putL_len a []; simpa [sortedL] using this
def missOf (l : List Evt) (ids : List Int) : List Int := sortedL (ids.filter fun n => !knownB l n)
set_option maxRecDepth 8000 in
set_option maxHeartbeats 4000000 in
theorem missing_ac (l : List Evt) (ids : List Int) (hsz : ids.length ≤ 100000) : AC Try.prog 38 [evs l, ints ids] (ints (missOf l ids)) := by
  refine AC.of_body Try.func38 rfl rfl Try.ntmps38 (congrArg Array.toList Try.results38) (by simp) (pures2 (pure_evs _) (pure_ints _)) (pureR_ints _) fun w S' => AWp.of_vc [] ?_
  have hm : ids.length ≤ maxLen := by unfold maxLen; omega
  simp [go_sem]
  refine AWp.ownNil 5 3 1 (by simp [go_sem]) ?_
  refine AWp.loop_vc [] (fun m s => ∃ k v : Nat, k ≤ ids.length ∧ m = ids.length - k ∧ s.σ 0 = evs l ∧ s.σ 1 = ints ids ∧ s.σ 6 = I k ∧ s.σ 5 = .ref 5 v ∧ s.ver 5 = v ∧ s.h 5 = .arr 3 1 ((missOf l (ids.take k)).map I)) ids.length ⟨0, 1, by simp [go_sem, missOf, sortedL]⟩ ?_
  rintro m s ⟨k, v, hk, rfl, h0, h1, h6, h5, hv, hh⟩
  by_cases hlt : k < ids.length
  · have hsu := filter_take3 (fun n => !knownB l n) ids k hlt
    have hml := sortedL_lenG ((ids.take k).filter fun n => !knownB l n)
    have hfl := List.length_filter_le (fun n => !knownB l n) (ids.take k)
    have hss := (sortedL_sorted ((ids.take k).filter fun n => !knownB l n)).1
    rw [List.length_take] at hfl
    unfold missOf at hh
    have hnew : missOf l (ids.take (k + 1)) = sortedL ((ids.take k).filter (fun n => !knownB l n) ++ if (!knownB l ids[k]) = true then [ids[k]] else []) := by unfold missOf; rw [hsu]
    generalize (ids.take k).filter (fun n => !knownB l n) = F at hh hml hfl hss hnew
    simp [go_sem, h0, h1, h6, h5, hv, hh, hlt]
    refine CallSem.pure (rplace_ac l ids[k]) (by simp [go_sem]) ?_
    rcases idxI_find (fun e : Evt => e.id == ids[k]) l with ⟨hf, hi⟩ | ⟨j, hj, hf, hi⟩
    · have hkn : knownB l ids[k] = false := by unfold knownB getE; rw [hf]; rfl
      rw [hkn] at hnew
      simp only [Bool.not_false, if_true] at hnew
      rw [sortedL_snoc] at hnew
      simp [go_sem, h0, h1, h6, h5, hv, hh, hlt, hi]
      refine with_sem rfl (by simp [go_sem]) (by decide) (by simp [go_sem, hv]) (by simp [go_sem, hh]) hss (by omega) ?_
      intro s' v' hv' hh'
      simp [go_sem, h0, h1, h6, h5, hv', hh', hlt, hi, wrap_succ hlt hm]
      exact ⟨ids.length - (k + 1), by omega, k + 1, by omega, rfl, rfl, by rw [hnew]⟩
    · have hkn : knownB l ids[k] = true := by unfold knownB getE; rw [hf]; rfl
      rw [hkn] at hnew
      have hneg : ¬ ((j : Int) < 0) := by omega
      simp [go_sem, h0, h1, h6, h5, hv, hh, hlt, hi, hneg, wrap_succ hlt hm]
      exact ⟨ids.length - (k + 1), by omega, k + 1, by omega, rfl, rfl, by rw [hnew]; simp⟩
  · rw [List.take_of_length_le (by omega)] at hh
    simp [go_sem, h0, h1, h6, h5, hv, hh, hlt]
    refine PostR.retW [5] ?_ (.refl _)
    simp [go_sem, h5, hv, hh]
def refsAll (l : List Evt) : List Int := l.flatMap fun e => e.prev ++ e.auth
theorem refsAll_succ {l : List Evt} {k : Nat} (h : k < l.length) : refsAll (l.take (k + 1)) = (refsAll (l.take k) ++ l[k].prev) ++ l[k].auth := by
  unfold refsAll; rw [List.take_succ_eq_append_getElem h, List.flatMap_append]; simp
theorem refsAll_len : ∀ {l : List Evt}, (∀ e ∈ l, e.prev.length ≤ 40 ∧ e.auth.length ≤ 40) → (refsAll l).length ≤ 80 * l.length
  | [], _ => Nat.le_refl _
  | e :: l, h => by
    have ih := refsAll_len (l := l) fun x hx => h x (List.mem_cons_of_mem _ hx)
    have he := h e (List.mem_cons_self ..)
    have : refsAll (e :: l) = (e.prev ++ e.auth) ++ refsAll l := by simp [refsAll]
    rw [this, List.length_append, List.length_append, List.length_cons]; omega
theorem take_snoc {a : List Int} {q : Nat} (h : q < a.length) (X : List Int) : X ++ a.take (q + 1) = (X ++ a.take q) ++ [a[q]] := by rw [List.take_succ_eq_append_getElem h, List.append_assoc]
set_option maxRecDepth 8000 in
set_option maxHeartbeats 4000000 in
theorem refs_ac (l : List Evt) (hl : Fit l) : AC Try.prog 39 [evs l] (ints (sortedL (refsAll l))) := by
  refine AC.of_body Try.func39 rfl rfl Try.ntmps39 (congrArg Array.toList Try.results39) (by simp) (pures1 (pure_evs _)) (pureR_ints _) fun w S' => AWp.of_vc [] ?_
  have hll := hl.len
  have hm : l.length ≤ maxLen := by unfold maxLen; omega
  simp [go_sem]
  refine AWp.ownNil 3 3 1 (by simp [go_sem]) ?_
  refine AWp.loop_vc [] (fun m s => ∃ k v : Nat, k ≤ l.length ∧ m = l.length - k ∧ s.σ 0 = evs l ∧ s.σ 4 = I k ∧ s.σ 3 = .ref 3 v ∧ s.ver 3 = v ∧ s.h 3 = .arr 3 1 ((sortedL (refsAll (l.take k))).map I)) l.length ⟨0, 1, by simp [go_sem, refsAll, sortedL]⟩ ?_
  rintro m s ⟨k, v, hk, rfl, h0, h4, h3, hv, hh⟩
  by_cases hlt : k < l.length
  · have hsu := refsAll_succ hlt
    have hRl := refsAll_len (l := l.take k) fun e he => ⟨hl.prev e (List.mem_of_mem_take he), hl.auth e (List.mem_of_mem_take he)⟩
    rw [List.length_take] at hRl
    generalize refsAll (l.take k) = X at hh hsu hRl
    have hp40 := hl.prev l[k] (List.getElem_mem hlt)
    have ha40 := hl.auth l[k] (List.getElem_mem hlt)
    generalize hE : l[k] = e at hsu hp40 ha40
    have hpm : e.prev.length ≤ maxLen := by unfold maxLen; omega
    have ham : e.auth.length ≤ maxLen := by unfold maxLen; omega
    simp [go_sem, h0, h4, h3, hv, hh, hlt, hE]
    refine AWp.loop_vc [] (fun m s => ∃ q v : Nat, q ≤ e.prev.length ∧ m = e.prev.length - q ∧ s.σ 0 = evs l ∧ s.σ 4 = I k ∧ s.σ 5 = I q ∧ s.σ 3 = .ref 3 v ∧ s.ver 3 = v ∧ s.h 3 = .arr 3 1 ((sortedL (X ++ e.prev.take q)).map I)) e.prev.length ⟨0, v, by simp [go_sem, h0, h4, h3, hv, hh]⟩ ?_
    clear h3 h4 h0 hv hh v
    rintro m s ⟨q, v, hq, rfl, h0, h4, h5, h3, hv, hh⟩
    by_cases hlq : q < e.prev.length
    · have hts := take_snoc hlq X
      have hYl : (X ++ e.prev.take q).length ≤ 2000 := by simp only [List.length_append, List.length_take]; omega
      generalize X ++ e.prev.take q = Y at hh hts hYl
      have hss := (sortedL_sorted Y).1
      have hsl := sortedL_lenG Y
      simp [go_sem, h0, h4, h5, h3, hv, hh, hlt, hE, hlq]
      refine with_sem rfl (by simp [go_sem]) (by decide) (by simp [go_sem, hv]) (by simp [go_sem, hh]) hss (by omega) ?_
      intro s' v' hv' hh'
      rw [← sortedL_snoc, ← hts] at hh'
      simp [go_sem, h0, h4, h5, h3, hv', hh', hlt, hE, hlq, wrap_succ hlq hpm]
      exact ⟨e.prev.length - (q + 1), by omega, q + 1, by omega, rfl, rfl, rfl⟩
    · rw [List.take_of_length_le (by omega)] at hh
      have hYl : (X ++ e.prev).length ≤ 1500 := by simp only [List.length_append]; omega
      generalize X ++ e.prev = Z at hh hsu hYl
      simp [go_sem, h0, h4, h5, h3, hv, hh, hlt, hE, hlq]
      refine AWp.loop_vc [] (fun m s => ∃ q v : Nat, q ≤ e.auth.length ∧ m = e.auth.length - q ∧ s.σ 0 = evs l ∧ s.σ 4 = I k ∧ s.σ 6 = I q ∧ s.σ 3 = .ref 3 v ∧ s.ver 3 = v ∧ s.h 3 = .arr 3 1 ((sortedL (Z ++ e.auth.take q)).map I)) e.auth.length ⟨0, v, by simp [go_sem, h0, h4, h3, hv, hh]⟩ ?_
      clear h3 h4 h0 hv hh v h5 hlq hq q
      rintro m s ⟨q, v, hq, rfl, h0, h4, h6, h3, hv, hh⟩
      by_cases hlq : q < e.auth.length
      · have hts := take_snoc hlq Z
        have hYl : (Z ++ e.auth.take q).length ≤ 2000 := by simp only [List.length_append, List.length_take]; omega
        generalize Z ++ e.auth.take q = Y at hh hts hYl
        have hss := (sortedL_sorted Y).1
        have hsl := sortedL_lenG Y
        simp [go_sem, h0, h4, h6, h3, hv, hh, hlt, hE, hlq]
        refine with_sem rfl (by simp [go_sem]) (by decide) (by simp [go_sem, hv]) (by simp [go_sem, hh]) hss (by omega) ?_
        intro s' v' hv' hh'
        rw [← sortedL_snoc, ← hts] at hh'
        simp [go_sem, h0, h4, h6, h3, hv', hh', hlt, hE, hlq, wrap_succ hlq ham]
        exact ⟨e.auth.length - (q + 1), by omega, q + 1, by omega, rfl, rfl, rfl⟩
      · rw [List.take_of_length_le (by omega)] at hh
        simp [go_sem, h0, h4, h6, h3, hv, hh, hlt, hE, hlq, wrap_succ hlt hm]
        exact ⟨l.length - (k + 1), by omega, k + 1, by omega, rfl, rfl, by rw [hsu]⟩
  · rw [List.take_of_length_le (by omega)] at hh
    simp [go_sem, h0, h4, h3, hv, hh, hlt]
    refine PostR.retW [3] ?_ (.refl _)
    simp [go_sem, h3, hv, hh]
theorem closed_miss (l : List Evt) : (missOf l (sortedL (refsAll l)) = []) ↔ closedOf l = true := by
  unfold closedOf
  have h1 : missOf l (sortedL (refsAll l)) = [] ↔ ∀ n ∈ refsAll l, knownB l n = true := by
    unfold missOf
    constructor
    · intro h n hn
      by_cases g : knownB l n = true
      · exact g
      · have : n ∈ sortedL ((sortedL (refsAll l)).filter fun n => !knownB l n) := by
          rw [(sortedL_sorted _).2, List.mem_filter, (sortedL_sorted _).2]
          exact ⟨hn, by simpa using g⟩
        rw [h] at this; cases this
    · intro h
      rw [List.eq_nil_iff_forall_not_mem]
      intro n hn
      rw [(sortedL_sorted _).2, List.mem_filter, (sortedL_sorted _).2] at hn
      have := h n hn.1
      rw [this] at hn
      exact absurd hn.2 (by simp)
  rw [h1]
  simp only [refsAll, allKnown, List.mem_flatMap, List.mem_append, List.all_eq_true, Bool.and_eq_true]
  constructor
  · intro h e he
    exact ⟨fun n hn => h n ⟨e, he, .inl hn⟩, fun n hn => h n ⟨e, he, .inr hn⟩⟩
  · rintro h n ⟨e, he, hn | hn⟩
    · exact (h e he).1 n hn
    · exact (h e he).2 n hn
set_option maxRecDepth 8000 in
set_option maxHeartbeats 4000000 in
theorem rclosed_ac (l : List Evt) (hl : Fit l) : AC Try.prog 13 [evs l] (B (closedOf l)) := by
  refine AC.of_body Try.func13 rfl rfl Try.ntmps13 (congrArg Array.toList Try.results13) (by simp) (pures1 (pure_evs _)) (pure_B _) fun w S' => AWp.of_vc [] ?_
  have hRl := refsAll_len (l := l) fun e he => ⟨hl.prev e he, hl.auth e he⟩
  have hll := hl.len
  have hcl := closed_miss l
  simp [go_sem]
  refine CallSem.pure (refs_ac l hl) (by simp [go_sem]) ?_
  have hsl := sortedL_lenG (refsAll l)
  generalize sortedL (refsAll l) = R at hsl hcl ⊢
  simp [go_sem]
  refine CallSem.pure (missing_ac l R (by omega)) (by simp [go_sem]) ?_
  generalize missOf l R = M at hcl ⊢
  cases M with
  | nil =>
    have hb : closedOf l = true := hcl.1 rfl
    simp [go_sem]
    refine PostR.ret ?_
    simp [go_sem, hb]
  | cons a M =>
    have hb : closedOf l = false := by
      rw [Bool.eq_false_iff]
      intro h
      have := hcl.2 h
      cases this
    have hne : ¬ ((M.length : Int) + 1 = 0) := by omega
    simp [go_sem, hne]
    refine PostR.ret ?_
    simp [go_sem, hb]
    omega
end Go.Proofs.Ythlcncofhnkohaa
