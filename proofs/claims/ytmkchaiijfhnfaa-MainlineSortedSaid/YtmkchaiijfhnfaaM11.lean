/- Chapter 19: the law Sorted. No condition. -/
import Derived.Test.YtmkchaiijfhnfaaM10
import Derived.Test.YtmkchaiijfhnfaaP1
namespace Go.Proofs.Ytmkchaiijfhnfaa
open Go Go.Abs Go.Shelf Go.RowKit Go.Lib Go.Sort Go.Proofs
set_option linter.unusedSimpArgs false
set_option linter.unusedVariables false
def isK (l : List Evt) (n : Int) : Bool := (getE l n).isSome
def backL (ids : List Int) (r : Nat) : List Int := (ids.drop r).reverse
def knownL (l : List Evt) (ids : List Int) (r : Nat) : List Int := (backL ids r).filter (isK l)
theorem back_succ {ids : List Int} {p : Nat} (h : p < ids.length) : backL ids p = backL ids (p + 1) ++ [ids[p]] := by
  unfold backL; rw [List.drop_eq_getElem_cons h, List.reverse_cons]
theorem known_succ {l : List Evt} {ids : List Int} {p : Nat} (h : p < ids.length) : knownL l ids p = knownL l ids (p + 1) ++ if isK l ids[p] = true then [ids[p]] else [] := by
  unfold knownL; rw [back_succ h, List.filter_append]; congr 1
  rw [List.filter_cons]; cases isK l ids[p] <;> rfl
theorem back_len (ids : List Int) (r : Nat) : (backL ids r).length = ids.length - r := by simp [backL]
theorem known_len (l : List Evt) (ids : List Int) (r : Nat) : (knownL l ids r).length ≤ ids.length - r := by
  unfold knownL; have := List.length_filter_le (isK l) (backL ids r); rw [back_len] at this; exact this
theorem back_end (ids : List Int) : backL ids ids.length = [] := by simp [backL]
theorem known_end (l : List Evt) (ids : List Int) : knownL l ids ids.length = [] := by simp [knownL, backL]
theorem mem_back (ids : List Int) (n : Int) : n ∈ backL ids 0 ↔ n ∈ ids := by simp [backL]
theorem mem_order2 (l : List Evt) (main ids : List Int) (n : Int) : n ∈ order2 l main ids ↔ n ∈ knownL l ids 0 := by
  unfold order2 knownL
  rw [List.mem_filter, mem_back, List.mem_map]
  constructor
  · rintro ⟨z, hz, rfl⟩
    have hz' := ((ordered _).2 z).1 hz
    obtain ⟨id, hid, hx⟩ := List.mem_filterMap.1 hz'
    obtain ⟨e, he, h2, _⟩ := itemOf_spec hx
    rw [h2]; exact ⟨hid, by unfold isK; rw [he]; rfl⟩
  · rintro ⟨hn, hk⟩
    unfold isK at hk
    obtain ⟨e, he⟩ := Option.isSome_iff_exists.1 hk
    have hx : itemOf l main n = some ⟨n, closeOf l main n, e.time⟩ := by unfold itemOf; rw [he]; rfl
    exact ⟨⟨n, closeOf l main n, e.time⟩, ((ordered _).2 _).2 (List.mem_filterMap.2 ⟨n, hn, hx⟩), rfl⟩
theorem sorted_same (l : List Evt) (main ids : List Int) : sortedL (knownL l ids 0) = sortedL (order2 l main ids) :=
  strict_ext (sortedL_sorted _).1 (sortedL_sorted _).1 fun x => by rw [(sortedL_sorted _).2, (sortedL_sorted _).2, mem_order2]
theorem order_nodup (l : List Evt) (main ids : List Int) : (order2 l main ids).Nodup := by
  unfold order2
  have h := (ordered (itemsOf l main ids)).1
  have hk : ∀ z ∈ comp (sortIt (itemsOf l main ids)), itemOf l main z.id = some z := fun z hz => items_known (((ordered _).2 z).1 hz)
  generalize comp (sortIt (itemsOf l main ids)) = C at h hk
  rw [List.Nodup, List.pairwise_map]
  refine h.imp_of_mem fun {x y} hx hy hxy he => ?_
  have h1 := hk x hx
  rw [he, hk y hy] at h1
  exact Lt.irrefl y ((Option.some.inj h1) ▸ hxy)
theorem sorted_len (l : List Evt) (main ids : List Int) : (sortedL (order2 l main ids)).length = (order2 l main ids).length := by
  refine List.Perm.length_eq ((List.perm_ext_iff_of_nodup ?_ (order_nodup l main ids)).2 fun x => (sortedL_sorted _).2 x)
  exact (sortedL_sorted _).1.imp fun {x y} h => by omega
/-- What the law's last loop sees. -/
def Neigh (l : List Evt) (main O : List Int) : Prop := ∀ q (h : q + 1 < O.length),
    ∃ (x y : Item) (e f : Evt), O[q]'(by omega) = x.id ∧ O[q + 1] = y.id ∧ getE l x.id = some e ∧ getE l y.id = some f ∧ closeOf l main x.id = x.closest ∧ closeOf l main y.id = y.closest ∧ e.time = x.time ∧ f.time = y.time ∧
      (y.closest < x.closest ∨ (x.closest = y.closest ∧ (x.time < y.time ∨ (x.time = y.time ∧ x.id < y.id))))
theorem neighbours (l : List Evt) (main ids : List Int) : Neigh l main (order2 l main ids) := by
  intro q h
  have hC := (ordered (itemsOf l main ids)).1
  have hk : ∀ z ∈ comp (sortIt (itemsOf l main ids)), itemOf l main z.id = some z := fun z hz => items_known (((ordered _).2 z).1 hz)
  have hO : order2 l main ids = (comp (sortIt (itemsOf l main ids))).map (·.id) := rfl
  have hl : q + 1 < (comp (sortIt (itemsOf l main ids))).length := by rw [hO, List.length_map] at h; exact h
  obtain ⟨e, he, _, he2, he3⟩ := itemOf_spec (hk (comp (sortIt (itemsOf l main ids)))[q] (List.getElem_mem _))
  obtain ⟨f, hf, _, hf2, hf3⟩ := itemOf_spec (hk (comp (sortIt (itemsOf l main ids)))[q + 1] (List.getElem_mem _))
  exact ⟨(comp (sortIt (itemsOf l main ids)))[q], (comp (sortIt (itemsOf l main ids)))[q + 1], e, f, (List.getElem_of_eq hO _).trans (by simp), (List.getElem_of_eq hO _).trans (by simp), he, hf, he2.symm, hf2.symm, he3.symm, hf3.symm, (itLt_iff _ _).1 (List.pairwise_iff_getElem.1 hC q (q + 1) (by omega) hl (by omega))⟩
set_option maxRecDepth 8000 in
set_option maxHeartbeats 4000000 in
theorem sorted19_law (l : List Evt) (main ids : List Int) : AC Try.prog 7 [evs l, ints main, ints ids] (B true) := by
  refine AC.of_body Try.func7 rfl rfl Try.ntmps7 (congrArg Array.toList Try.results7) (by simp) (pures3 (pure_evs _) (pure_ints _) (pure_ints _)) (pure_B _) fun w S' => AWp.of_vc [38, 39] ?_
  simp [go_sem]
  refine CallSem.pure (few_ac l) (by simp [go_sem]) ?_
  cases hF : fewOf l with
  | false =>
    simp [go_sem]
    refine CallSem.pure lives19_ac (by simp [go_sem]) ?_
    simp [go_sem]
    refine PostR.ret ?_
    simp [go_sem]
  | true =>
    obtain ⟨f1, f2, _⟩ := few_spec hF
    by_cases hm : (30 : Int) < main.length
    · simp [go_sem, hm]
      refine CallSem.pure lives19_ac (by simp [go_sem]) ?_
      simp [go_sem]
      refine PostR.ret ?_
      simp [go_sem]
    by_cases hn : (30 : Int) < ids.length
    · simp [go_sem, hm, hn]
      refine CallSem.pure lives19_ac (by simp [go_sem]) ?_
      simp [go_sem]
      refine PostR.ret ?_
      simp [go_sem]
    have hnl : ids.length ≤ 30 := by omega
    have hml : main.length ≤ 30 := by omega
    have hw : IntKind.i64.wrap ((ids.length : Int) - 1) = (ids.length : Int) - 1 := wrap_i64 (by omega) (by omega)
    simp [go_sem, hm, hn]
    refine CallSem.pure (order2_ac l main ids f1 f2 (by omega)) (by simp [go_sem]) ?_
    simp [go_sem, hw]
    refine AWp.loop_vc [] (fun m s => ∃ r v u : Nat, r ≤ ids.length ∧ m = r ∧ s.σ 0 = evs l ∧ s.σ 1 = ints main ∧ s.σ 2 = ints ids ∧ s.σ 7 = ints (order2 l main ids) ∧ s.σ 10 = I ((r : Int) - 1) ∧ s.σ 8 = .ref 38 v ∧ s.ver 38 = v ∧ s.h 38 = .arr 3 1 ((knownL l ids r).map I) ∧ s.σ 9 = .ref 39 u ∧ s.ver 39 = u ∧ s.h 39 = .arr 3 1 ((backL ids r).map I)) ids.length ⟨ids.length, by simp [go_sem, back_end, known_end]⟩ ?_
    rintro m s ⟨r, v, u, hr, hmr, h0, h1, h2, h7, h10, h8, hv8, hh8, h9, hv9, hh9⟩
    have hbl := back_len ids r
    have hkl := known_len l ids r
    cases r with
    | succ p =>
      have hlt : p < ids.length := by omega
      have h10 : s.σ 10 = I p := by rw [h10]; congr 1; omega
      have hwp : IntKind.i64.wrap ((p : Int) - 1) = (p : Int) - 1 := wrap_i64 (by omega) (by omega)
      have hbs := back_succ hlt
      have hks := known_succ (l := l) hlt
      generalize backL ids (p + 1) = bk at hh9 hbl hbs
      generalize knownL l ids (p + 1) = kn at hh8 hkl hks
      have p0 : (0 : Int) ≤ p := by omega
      simp [go_sem, h0, h1, h2, h7, h10, h8, hv8, hh8, h9, hv9, hh9, hlt, p0]
      refine ⟨⟨by omega, by omega⟩, ?_⟩
      refine CallSem.pure (rgetE_ac l ids[p]) (by simp [go_sem]) ?_
      unfold isK at hks
      cases hg : getE l ids[p] with
      | none =>
        rw [hg] at hks
        simp [go_sem, h0, h1, h2, h7, h10, h8, hv8, hh8, h9, hv9, hh9, hlt, hwp]
        exact ⟨p, by omega, p, by omega, rfl, rfl, by rw [hks]; simp [I], by rw [hbs]; simp [I]⟩
      | some e =>
        rw [hg] at hks
        simp [go_sem, h0, h1, h2, h7, h10, h8, hv8, hh8, h9, hv9, hh9, hlt, hwp]
        exact ⟨⟨by omega, by omega⟩, p, by omega, p, by omega, rfl, rfl, by rw [hks]; simp [I], by rw [hbs]; simp [I]⟩
    | zero =>
      have h10 : s.σ 10 = I (-1) := h10
      simp [go_sem, h0, h1, h2, h7, h10, h8, hv8, hh8, h9, hv9, hh9]
      have hss := sorted_same l main ids
      have hsl := sorted_len l main ids
      have hos : order2 l main (backL ids 0) = order2 l main ids := order2_same l main (mem_back ids)
      have hol := order2_len l main ids
      have hnb := neighbours l main ids
      generalize order2 l main ids = O at h7 hss hsl hos hol hnb ⊢
      generalize hK : knownL l ids 0 = K at hh8 hkl hss
      generalize hBk : backL ids 0 = Bk at hh9 hbl hos
      refine CallSem.freeze 38 ?_
      refine CallSem.freeze 39 ?_
      simp [go_sem, h0, h1, h2, h7, h10, h8, hv8, hh8, h9, hv9, hh9]
      refine CallSem.pure (sorted_ac O (by omega)) (by simp [go_sem]) ?_
      simp [go_sem, h0, h1, h2, h7, h10, h8, hv8, hh8, h9, hv9, hh9]
      refine CallSem.pure (sorted_ac K (by omega)) (by simp [go_sem]) ?_
      rw [hss]
      simp [go_sem, h0, h1, h2, h7, h10, h8, hv8, hh8, h9, hv9, hh9]
      refine CallSem.pure (same_ac (sortedL O) (sortedL O)) (by simp [go_sem]) ?_
      simp [go_sem, h0, h1, h2, h7, h10, h8, hv8, hh8, h9, hv9, hh9]
      refine CallSem.pure (sorted_ac K (by omega)) (by simp [go_sem]) ?_
      rw [hss]
      simp [go_sem, h0, h1, h2, h7, h10, h8, hv8, hh8, h9, hv9, hh9, hsl]
      refine CallSem.pure (order2_ac l main Bk f1 f2 (by omega)) (by simp [go_sem]) ?_
      rw [hos]
      simp [go_sem, h0, h1, h2, h7, h10, h8, hv8, hh8, h9, hv9, hh9]
      refine CallSem.pure (same_ac O O) (by simp [go_sem]) ?_
      simp [go_sem, h0, h1, h2, h7, h10, h8, hv8, hh8, h9, hv9, hh9]
      have hOm : O.length ≤ maxLen := by unfold maxLen; omega
      refine AWp.loop_vc [] (fun m t => ∃ q : Nat, m = O.length - q ∧ t.σ 0 = evs l ∧ t.σ 1 = ints main ∧ t.σ 7 = ints O ∧ t.σ 13 = I ((q : Int) + 1)) O.length ⟨0, by simp [go_sem, h0, h1, h7]⟩ ?_
      clear h0 h1 h2 h7 h8 h9 h10 hh8 hh9 hv8 hv9
      rintro m t ⟨q, rfl, h0, h1, h7, h13⟩
      by_cases hlt : q + 1 < O.length
      · have t4 : (q : Int) + 1 < O.length := by omega
        have t1 : (0 : Int) ≤ (q : Int) + 1 := by omega
        have t2 : ((q : Int) + 1).toNat = q + 1 := by omega
        have hw1 : IntKind.i64.wrap (q : Int) = (q : Int) := wrap_nat (by omega)
        have hq' : q < O.length := by omega
        have hws : IntKind.i64.wrap ((q : Int) + 1 + 1) = (q : Int) + 1 + 1 := wrap_i64 (by omega) (by omega)
        obtain ⟨x, y, e, f, hx, hy, he, hf, hxc, hyc, hxt, hyt, hlt3⟩ := hnb q hlt
        simp [go_sem, h0, h1, h7, h13, t4]
        refine AWp.drawAll rfl (by kernel_rfl) ?_
        simp [go_sem, h0, h1, h7, h13, t1, t2, t4, hw1, hlt, hq', hx, hy]
        refine CalmThen.pure (close_ac l main x.id f1 f2) (by simp [go_sem]) ?_
        rw [hxc]
        simp [go_sem, h0, h1, h7, h13, t1, t2, t4, hw1, hlt, hq', hx, hy]
        refine CalmThen.pure (close_ac l main y.id f1 f2) (by simp [go_sem]) ?_
        rw [hyc]
        simp [go_sem, h0, h1, h7, h13, t1, t2, t4, hw1, hlt, hq', hx, hy]
        refine CallSem.pure (rgetE_ac l x.id) (by simp [go_sem]) ?_
        rw [he]
        simp [go_sem, h0, h1, h7, h13, t1, t2, t4, hw1, hlt, hq', hx, hy]
        refine CallSem.pure (rgetE_ac l y.id) (by simp [go_sem]) ?_
        rw [hf]
        simp [go_sem, h0, h1, h7, h13, t1, t2, t4, hw1, hlt, hq', hx, hy]
        refine AWp.drawAll rfl (by kernel_rfl) ?_
        rcases hlt3 with c1 | ⟨c1, c2⟩
        · have g1 : ¬ x.closest < y.closest := by omega
          have g2 : ¬ x.closest = y.closest := by omega
          simp [go_sem, h0, h1, h7, h13, t1, t2, t4, hw1, hws, hlt, hq', hx, hy, g1, g2]
          exact ⟨O.length - (q + 1), by omega, q + 1, rfl, by simp⟩
        · rcases c2 with c2 | ⟨c2, c3⟩
          · have g1 : ¬ y.time < x.time := by omega
            have g2 : ¬ x.time = y.time := by omega
            simp [go_sem, h0, h1, h7, h13, t1, t2, t4, hw1, hws, hlt, hq', hx, hy, c1, hxt, hyt, g1, g2]
            exact ⟨O.length - (q + 1), by omega, q + 1, rfl, by simp⟩
          · have g1 : ¬ y.id ≤ x.id := by omega
            simp [go_sem, h0, h1, h7, h13, t1, t2, t4, hw1, hws, hlt, hq', hx, hy, c1, hxt, hyt, c2, g1]
            exact ⟨O.length - (q + 1), by omega, q + 1, rfl, by simp⟩
      · have t4 : ¬ (q : Int) + 1 < O.length := by omega
        simp [go_sem, h0, h1, h7, h13, t4]
        refine CallSem.pure lives19_ac (by simp [go_sem]) ?_
        simp [go_sem]
        refine PostR.ret ?_
        simp [go_sem]

end Go.Proofs.Ytmkchaiijfhnfaa
