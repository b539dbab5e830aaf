/- Contracts of chapter 19: the worked example; the laws Of, Closest, Chain. No condition. -/
import Derived.Test.YtmkchaiijfhnfaaM5
import Derived.Test.YtmkchaiijfhnfaaM6
namespace Go.Proofs.Ytmkchaiijfhnfaa
open Go Go.Abs Go.Proofs
set_option linter.unusedSimpArgs false
theorem it_le_trans (a b c : Item) (h1 : (!(ltOf cmpT) b a) = true) (h2 : (!(ltOf cmpT) c b) = true) : (!(ltOf cmpT) c a) = true := by
  simp only [Bool.not_eq_true'] at h1 h2 ⊢
  exact cmpT_swo.ntrans c b a h2 h1
theorem it_le_total (a b : Item) : ((!(ltOf cmpT) b a) || (!(ltOf cmpT) a b)) = true := by
  cases h : ltOf cmpT b a with
  | false => simp
  | true =>
    cases h2 : ltOf cmpT a b with
    | false => simp
    | true => have := cmpT_swo.trans a b a h2 h; rw [cmpT_swo.irrefl] at this; cases this
theorem sortIt_pw (L : List Item) : (sortIt L).Pairwise fun x y => (!(ltOf cmpT) y x) = true := List.pairwise_mergeSort it_le_trans it_le_total L
theorem sortIt_perm (L : List Item) : (sortIt L).Perm L := List.mergeSort_perm _ _
theorem sortIt_eq {L R : List Item} (hp : R.Perm L) (hs : R.Pairwise fun x y => (!(ltOf cmpT) y x) = true) : sortIt L = R := by
  refine List.Perm.eq_of_pairwise (le := fun x y => (!(ltOf cmpT) y x) = true) ?_ (sortIt_pw L) hs ((sortIt_perm L).trans hp.symm)
  intro a b _ _ h1 h2
  simp only [Bool.not_eq_true'] at h1 h2
  exact cmpT_tot a b h2 h1
theorem apart_nodup {L : List Item} (h : L.Pairwise (· ≠ ·)) : Apart2 L := by
  intro j a b ha hb hab
  obtain ⟨h1, rfl⟩ := List.getElem?_eq_some_iff.1 ha
  obtain ⟨h2, rfl⟩ := List.getElem?_eq_some_iff.1 hb
  exact List.pairwise_iff_getElem.1 h j (j + 1) h1 h2 (by omega) hab.symm
def ex19 : List Evt := [{ evZ with id := 10, kind := 3 }, { evZ with id := 20, kind := 3, auth := [10] }, { evZ with id := 30, kind := 3, auth := [10, 20] }, { evZ with id := 40, kind := 11, auth := [20], time := 5 }, { evZ with id := 50, kind := 11, auth := [30], time := 1 }, { evZ with id := 60, kind := 11 }]
theorem ex19_few : ex19.length ≤ 100000 ∧ Few ex19 := (few_spec (l := ex19) (by decide)).imp_right And.left
theorem ex19_ways : wayOf ex19 30 = [30, 10] ∧ wayOf ex19 20 = [20, 10] ∧ wayOf ex19 99 = [] ∧ closeOf ex19 [30, 10] 40 = 1 ∧ closeOf ex19 [30, 10] 60 = 2 := by decide
theorem ex19_items : itemsOf ex19 [30, 10] [40, 50, 60] = [⟨40, 1, 5⟩, ⟨50, 0, 1⟩, ⟨60, 2, 0⟩] := by decide
theorem ex19_sort : sortIt (itemsOf ex19 [30, 10] [40, 50, 60]) = [⟨60, 2, 0⟩, ⟨40, 1, 5⟩, ⟨50, 0, 1⟩] := by
  rw [ex19_items]
  refine sortIt_eq (by decide) ?_
  simp only [cmpT_lt]
  decide
theorem ex19_apart : Apart2 (sortIt (itemsOf ex19 [30, 10] [40, 50, 60])) := by rw [ex19_sort]; exact apart_nodup (by decide)
theorem ex19_order : orderOf ex19 [30, 10] [40, 50, 60] = [60, 40, 50] := by
  unfold orderOf
  rw [apart_compact ex19_apart, ex19_sort]; rfl
set_option maxRecDepth 8000 in
set_option maxHeartbeats 4000000 in
theorem sample19_ac  : AC Try.prog 20 [] (evs ex19) := by
  refine AC.of_body Try.func20 rfl rfl Try.ntmps20 (congrArg Array.toList Try.results20) (by simp) (pures0) (pure_evs _) fun w S' => AWp.of_vc [] ?_
  simp [go_sem]
  refine PostR.retW [] (r0 := .lst 29 (ex19.map fun x => .agg (evL x))) (by simp [go_sem]; rfl) ?_
  exact .one (.one (wk_evsL ex19))

set_option maxRecDepth 8000 in
set_option maxHeartbeats 4000000 in
theorem lives19_ac  : AC Try.prog 9 [] (B true) := by
  refine AC.of_body Try.func9 rfl rfl Try.ntmps9 (congrArg Array.toList Try.results9) (by simp) (pures0) (pure_B _) fun w S' => AWp.of_vc [] ?_
  simp [go_sem]
  refine CallSem.pure sample19_ac (by simp [go_sem]) ?_
  simp [go_sem]
  refine CallSem.pure (way_ac ex19 30 ex19_few.1 ex19_few.2) (by simp [go_sem]) ?_
  rw [ex19_ways.1]
  simp [go_sem]
  refine CallSem.pure (same_ac [30, 10] [30, 10]) (by simp [go_sem]) ?_
  simp [go_sem]
  refine CallSem.pure (way_ac ex19 20 ex19_few.1 ex19_few.2) (by simp [go_sem]) ?_
  rw [ex19_ways.2.1]
  simp [go_sem]
  refine CallSem.pure (same_ac [20, 10] [20, 10]) (by simp [go_sem]) ?_
  simp [go_sem]
  refine CallSem.pure (way_ac ex19 99 ex19_few.1 ex19_few.2) (by simp [go_sem]) ?_
  rw [ex19_ways.2.2.1]
  simp [go_sem]
  refine CallSem.pure (close_ac ex19 [30, 10] 40 ex19_few.1 ex19_few.2) (by simp [go_sem]) ?_
  rw [ex19_ways.2.2.2.1]
  simp [go_sem]
  refine CallSem.pure (close_ac ex19 [30, 10] 60 ex19_few.1 ex19_few.2) (by simp [go_sem]) ?_
  rw [ex19_ways.2.2.2.2]
  simp [go_sem]
  refine CallSem.pure (order_ac ex19 [30, 10] [40, 50, 60] ex19_few.1 ex19_few.2 (by decide) ex19_apart) (by simp [go_sem]) ?_
  rw [ex19_order]
  simp [go_sem]
  refine CallSem.pure (same_ac [60, 40, 50] [60, 40, 50]) (by simp [go_sem]) ?_
  simp [go_sem]
  refine PostR.ret ?_
  simp [go_sem]

set_option maxRecDepth 8000 in
set_option maxHeartbeats 4000000 in
theorem of19_law (l : List Evt) (p : Int) : AC Try.prog 3 [evs l, I p] (B true) := by
  refine AC.of_body Try.func3 rfl rfl Try.ntmps3 (congrArg Array.toList Try.results3) (by simp) (pures2 (pure_evs _) (pure_I _)) (pure_B _) fun w S' => AWp.of_vc [] ?_
  simp [go_sem]
  refine CallSem.pure (few_ac l) (by simp [go_sem]) ?_
  cases hF : fewOf l with
  | false =>
    simp [go_sem]
    refine CallSem.pure lives19_ac (by simp [go_sem]) ?_
    simp [go_sem]
    refine PostR.ret ?_
    simp [go_sem]
  | true =>
    obtain ⟨h1, h2, _⟩ := few_spec hF
    simp [go_sem]
    refine CallSem.pure (way_ac l p h1 h2) (by simp [go_sem]) ?_
    simp [go_sem]
    refine CallSem.pure (rway_ac l p h1 h2) (by simp [go_sem]) ?_
    simp [go_sem]
    refine CallSem.pure (same_ac (wayOf l p) (wayOf l p)) (by simp [go_sem]) ?_
    simp [go_sem]
    refine CallSem.pure lives19_ac (by simp [go_sem]) ?_
    simp [go_sem]
    refine PostR.ret ?_
    simp [go_sem]

set_option maxRecDepth 8000 in
set_option maxHeartbeats 4000000 in
theorem closest19_law (l : List Evt) (main : List Int) (id : Int) : AC Try.prog 4 [evs l, ints main, I id] (B true) := by
  refine AC.of_body Try.func4 rfl rfl Try.ntmps4 (congrArg Array.toList Try.results4) (by simp) (pures3 (pure_evs _) (pure_ints _) (pure_I _)) (pure_B _) fun w S' => AWp.of_vc [] ?_
  simp [go_sem]
  refine CallSem.pure (few_ac l) (by simp [go_sem]) ?_
  cases hF : fewOf l with
  | false =>
    simp [go_sem]
    refine CallSem.pure lives19_ac (by simp [go_sem]) ?_
    simp [go_sem]
    refine PostR.ret ?_
    simp [go_sem]
  | true =>
    obtain ⟨h1, h2, _⟩ := few_spec hF
    by_cases g : (30 : Int) < main.length
    · simp [go_sem, g]
      refine CallSem.pure lives19_ac (by simp [go_sem]) ?_
      simp [go_sem]
      refine PostR.ret ?_
      simp [go_sem]
    simp [go_sem, g]
    refine CallSem.pure (close_ac l main id h1 h2) (by simp [go_sem]) ?_
    simp [go_sem]
    refine CallSem.pure (rclose_ac l main id h1 h2) (by simp [go_sem]) ?_
    simp [go_sem]
    refine CallSem.pure lives19_ac (by simp [go_sem]) ?_
    simp [go_sem]
    refine PostR.ret ?_
    simp [go_sem]

set_option maxRecDepth 8000 in
set_option maxHeartbeats 4000000 in
theorem chain19_law (l : List Evt) (p : Int) : AC Try.prog 6 [evs l, I p] (B true) := by
  refine AC.of_body Try.func6 rfl rfl Try.ntmps6 (congrArg Array.toList Try.results6) (by simp) (pures2 (pure_evs _) (pure_I _)) (pure_B _) fun w S' => AWp.of_vc [] ?_
  simp [go_sem]
  refine CallSem.pure (few_ac l) (by simp [go_sem]) ?_
  cases hF : fewOf l with
  | false =>
    simp [go_sem]
    refine CallSem.pure lives19_ac (by simp [go_sem]) ?_
    simp [go_sem]
    refine PostR.ret ?_
    simp [go_sem]
  | true =>
    obtain ⟨hl1, hl2, _⟩ := few_spec hF
    have hwl := few_len l p
    obtain ⟨hseen, hhead, hknown, hchain⟩ := wayF_facts l l.length [] p ⟨List.Pairwise.nil, fun x hx => by cases hx⟩
    have hclose := fun i hi => way_closest (l := l) (id := p) (i := i) hi
    have hW0 : wayF l l.length [] p = wayOf l p := rfl
    have hpre : (∃ e, getE l p = some e ∧ 0 < (wayOf l p).length ∧ (wayOf l p)[0]? = some p) ∨ (getE l p = none ∧ wayOf l p = []) := by
      cases hg : getE l p with
      | none => exact .inr ⟨rfl, way_none hg⟩
      | some e =>
        obtain ⟨W, hW⟩ := way_head hg
        exact .inl ⟨e, rfl, by rw [hW]; simp, by rw [hW]; rfl⟩
    rw [hW0] at hseen hhead hknown hchain
    simp [go_sem]
    refine CallSem.pure (way_ac l p hl1 hl2) (by simp [go_sem]) ?_
    generalize wayOf l p = W at hwl hseen hhead hknown hchain hclose hpre ⊢
    have hm : W.length ≤ maxLen := by unfold maxLen; omega
    simp [go_sem]
    refine AWp.loop_vc [] (fun m s => ∃ q : Nat, q ≤ W.length ∧ m = W.length - q ∧ s.σ 0 = evs l ∧ s.σ 1 = I p ∧ s.σ 5 = ints W ∧ s.σ 6 = I q) W.length ⟨0, by simp [go_sem]⟩ ?_
    rintro m s ⟨q, hq, rfl, h0, h1, h5, h6⟩
    by_cases hlt : q < W.length
    · obtain ⟨e, he⟩ := Option.isSome_iff_exists.1 (hknown W[q] (List.getElem_mem hlt))
      have hcl := hclose q hlt
      have hnot : hasI (W.take q) W[q] = false := by
        unfold hasI
        cases hc : (W.take q).contains W[q]
        · rfl
        · obtain ⟨j, hj, hje⟩ := List.mem_iff_getElem.1 (show W[q] ∈ W.take q by simpa using hc)
          rw [List.length_take] at hj
          rw [List.getElem_take] at hje
          have := List.pairwise_iff_getElem.1 hseen.1 j q (by simp; omega) (by simpa using hlt) (by omega)
          simp at this
          exact (this hje).elim
      simp [go_sem, h0, h1, h5, h6, hlt]
      refine CallSem.pure (rgetE_ac l W[q]) (by simp [go_sem]) ?_
      rw [he]
      simp [go_sem, h0, h1, h5, h6, hlt]
      refine AWp.drawAll rfl (by kernel_rfl) ?_
      simp [go_sem, h0, h1, h5, h6, hlt]
      refine CalmThen.pure (close_ac l W W[q] hl1 hl2) rfl ?_
      rw [hcl]
      simp [go_sem, h0, h1, h5, h6, hlt, hq]
      rw [← List.map_take]
      refine CalmThen.pure (r := B (hasI (W.take q) W[q])) (has_ac (W.take q) W[q]) rfl ?_
      rw [hnot]
      cases q with
      | zero =>
        simp [go_sem, h0, h1, h5, h6, hlt, wrap_succ hlt hm]
        exact ⟨W.length - 1, by omega, 1, by omega, rfl, rfl⟩
      | succ q =>
        have hq' : q < W.length := by omega
        have hw : IntKind.i64.wrap (q : Int) = (q : Int) := wrap_nat (by omega)
        have t1 : (0 : Int) ≤ (q : Int) + 1 := by omega
        have t2 : ((q : Int) + 1).toNat = q + 1 := by omega
        have t3 : ¬ (q : Int) + 1 = 0 := by omega
        have t4 : (q : Int) + 1 < W.length := by omega
        obtain ⟨b, hb, hpw⟩ := hchain q W[q] W[q + 1] (List.getElem?_eq_getElem hq') (List.getElem?_eq_getElem hlt)
        have hpt : powT l W[q + 1] = true := by
          unfold powE at hpw
          have h3 := List.find?_some hpw
          exact h3
        have hek : e.kind = 3 := by
          unfold powT at hpt
          rw [he] at hpt
          exact of_decide_eq_true hpt
        have hin : hasI b.auth W[q + 1] = true := by
          unfold powE at hpw
          unfold hasI
          simpa using List.mem_of_find?_eq_some hpw
        simp [go_sem, h0, h1, h5, h6, hlt, hw, t1, t2, t3, t4, hq']
        refine CallSem.pure (rgetE_ac l W[q]) (by simp [go_sem]) ?_
        rw [hb]
        simp [go_sem, h0, h1, h5, h6, hlt, hw, t1, t2, t3, t4, hq']
        refine AWp.drawAll rfl (by kernel_rfl) ?_
        simp [go_sem, h0, h1, h5, h6, hlt, hw, t1, t2, t3, t4, hq', hek]
        refine CalmThen.pure (r := B (hasI b.auth W[q + 1])) (has_ac b.auth W[q + 1]) rfl ?_
        rw [hin]
        simp [go_sem, h0, h1, h5, h6, hlt, hw, t1, t2, t3, t4, hq', wrap_succ hlt hm]
        exact ⟨W.length - (q + 1 + 1), by omega, q + 1 + 1, by omega, rfl, by have := wrap_succ hlt hm; simpa using this⟩
    · simp [go_sem, h0, h1, h5, h6, hlt]
      refine CallSem.pure (rgetE_ac l p) (by simp [go_sem]) ?_
      rcases hpre with ⟨e, hg, hpos, hz⟩ | ⟨hg, hW⟩
      · rw [hg]
        have hz0 : W[0] = p := by
          rw [List.getElem?_eq_getElem hpos] at hz
          exact Option.some.inj hz
        have k1 : (0 : Int) < W.length := by omega
        have k2 : ¬ W = [] := fun h => by rw [h] at hpos; simp at hpos
        simp [go_sem, h0, h1, h5, h6, hlt, hpos, hz0, k1, k2]
        refine CallSem.pure lives19_ac (by simp [go_sem]) ?_
        simp [go_sem]
        refine PostR.ret ?_
        simp [go_sem]
      · rw [hg]
        subst hW
        simp [go_sem, h0, h1, h5, h6]
        refine CallSem.pure lives19_ac (by simp [go_sem]) ?_
        simp [go_sem]
        refine PostR.ret ?_
        simp [go_sem]

end Go.Proofs.Ytmkchaiijfhnfaa
