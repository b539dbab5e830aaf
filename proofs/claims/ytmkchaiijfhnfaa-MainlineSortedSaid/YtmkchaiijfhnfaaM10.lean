/- Chapter 19: the order, plain laws; the laws Orders and Sorted. No condition. -/
import Derived.Test.YtmkchaiijfhnfaaM7
import Derived.Test.YtmkchaiijfhnfaaM9
namespace Go.Proofs.Ytmkchaiijfhnfaa
open Go Go.Abs Go.Shelf Go.RowKit Go.Lib Go.Sort Go.Proofs
set_option linter.unusedSimpArgs false
set_option linter.unusedVariables false
def Lt (x y : Item) : Prop := itLt x y = true
theorem itLt_iff (x y : Item) : itLt x y = true ↔ (y.closest < x.closest ∨ (x.closest = y.closest ∧ (x.time < y.time ∨ (x.time = y.time ∧ x.id < y.id)))) := by unfold itLt; exact decide_eq_true_iff
theorem itLt_not (x y : Item) : itLt x y = false ↔ ¬ (y.closest < x.closest ∨ (x.closest = y.closest ∧ (x.time < y.time ∨ (x.time = y.time ∧ x.id < y.id)))) := by unfold itLt; exact decide_eq_false_iff_not
theorem Lt.trans {x y z : Item} (h1 : Lt x y) (h2 : Lt y z) : Lt x z := by
  unfold Lt at *; rw [itLt_iff] at *; omega
theorem Lt.irrefl (x : Item) : ¬ Lt x x := by unfold Lt; rw [itLt_iff]; omega
theorem Lt.asymm {x y : Item} (h1 : Lt x y) (h2 : Lt y x) : False := Lt.irrefl _ (h1.trans h2)
theorem Lt.tot {x y : Item} (h : itLt y x = false) (hne : y ≠ x) : Lt x y := by
  unfold Lt; rw [itLt_iff]; rw [itLt_not] at h
  have : ¬ (y.closest = x.closest ∧ y.time = x.time ∧ y.id = x.id) := fun hh => hne (by cases x; cases y; simp only at hh; obtain ⟨h1, h2, h3⟩ := hh; rw [h1, h2, h3])
  omega
theorem lt_unique {A B : List Item} (ha : A.Pairwise Lt) (hb : B.Pairwise Lt) (h : ∀ z, z ∈ A ↔ z ∈ B) : A = B := by
  have na : A.Nodup := ha.imp fun {x y} (hxy : Lt x y) (he : x = y) => Lt.irrefl y (he ▸ hxy)
  have nb : B.Nodup := hb.imp fun {x y} (hxy : Lt x y) (he : x = y) => Lt.irrefl y (he ▸ hxy)
  exact List.Perm.eq_of_pairwise (le := Lt) (fun a b _ _ h1 h2 => (h1.asymm h2).elim) ha hb ((List.perm_ext_iff_of_nodup na nb).2 h)
theorem pair_snoc {X : List Item} {a : Item} (hX : X.Pairwise Lt) (h : ∀ x ∈ X, Lt x a) : (X ++ [a]).Pairwise Lt := by
  rw [List.pairwise_append]
  exact ⟨hX, List.pairwise_singleton _ _, fun x hx y hy => by rw [List.mem_singleton] at hy; subst hy; exact h x hx⟩
theorem compU_inv {L : List Item} (hs : L.Pairwise fun x y => itLt y x = false) : ∀ m (hm : m < L.length), ∃ X, compU L (m + 1) = X ++ [L[m]] ∧ (X ++ [L[m]]).Pairwise Lt ∧ ∀ z, z ∈ X ++ [L[m]] ↔ z ∈ L.take (m + 1)
  | 0, hm => by
    refine ⟨[], ?_, List.pairwise_singleton _ _, fun z => ?_⟩
    · rw [compU_more (List.getElem?_eq_getElem hm) (.inr rfl)]; rfl
    · rw [List.take_succ_eq_append_getElem hm]; simp
  | m + 1, hm => by
    obtain ⟨X, h1, h2, h3⟩ := compU_inv hs m (by omega)
    have ht : ∀ z, z ∈ L.take (m + 1 + 1) ↔ z ∈ X ++ [L[m]] ∨ z = L[m + 1] := fun z => by
      rw [List.take_succ_eq_append_getElem hm, List.mem_append, List.mem_singleton, h3 z]
    by_cases he : L[m + 1] = L[m]
    · refine ⟨X, ?_, ?_, fun z => ?_⟩
      · rw [compU_same (by omega) (by rw [List.getElem?_eq_getElem hm, show m + 1 - 1 = m from rfl, List.getElem?_eq_getElem (by omega), he]), h1, he]
      · rw [he]; exact h2
      · rw [ht z, he]
        exact ⟨.inl, fun h => h.elim id fun h => h ▸ List.mem_append.2 (.inr (List.mem_singleton.2 rfl))⟩
    · refine ⟨X ++ [L[m]], ?_, ?_, fun z => ?_⟩
      · rw [compU_more (List.getElem?_eq_getElem hm) (.inl (by rw [List.getElem?_eq_getElem hm, show m + 1 - 1 = m from rfl, List.getElem?_eq_getElem (by omega)]; intro h; exact he (Option.some.inj h))), h1]
      · have hlt : Lt L[m] L[m + 1] := Lt.tot (List.pairwise_iff_getElem.1 hs m (m + 1) (by omega) hm (by omega)) he
        refine pair_snoc h2 fun x hx => ?_
        rcases List.mem_append.1 hx with hx' | hx'
        · exact Lt.trans ((List.pairwise_append.1 h2).2.2 x hx' _ (List.mem_singleton.2 rfl)) hlt
        · rw [List.mem_singleton] at hx'; rw [hx']; exact hlt
      · rw [ht z, List.mem_append, List.mem_singleton]
theorem comp_spec {L : List Item} (hs : L.Pairwise fun x y => itLt y x = false) : (comp L).Pairwise Lt ∧ ∀ z, z ∈ comp L ↔ z ∈ L := by
  unfold comp
  cases hz : L.length with
  | zero => have : L = [] := List.eq_nil_of_length_eq_zero hz; subst this; exact ⟨.nil, fun z => Iff.rfl⟩
  | succ m =>
    obtain ⟨X, h1, h2, h3⟩ := compU_inv hs m (by omega)
    rw [h1]
    rw [List.take_of_length_le (by omega)] at h3
    exact ⟨h2, h3⟩
theorem ordered (L : List Item) : (comp (sortIt L)).Pairwise Lt ∧ ∀ z, z ∈ comp (sortIt L) ↔ z ∈ L := by
  have hs : (sortIt L).Pairwise fun x y => itLt y x = false := (sortIt_pw L).imp fun {x y} h => by
    rw [cmpT_lt] at h; simpa using h
  have := comp_spec hs
  exact ⟨this.1, fun z => (this.2 z).trans (sortIt_perm L).mem_iff⟩
theorem insI_spec : ∀ {X : List Item} {x : Item}, X.Pairwise Lt → x ∉ X → (insI X x).Pairwise Lt ∧ ∀ z, z ∈ insI X x ↔ z ∈ X ∨ z = x
  | [], x, _, _ => ⟨List.pairwise_singleton _ _, fun z => by unfold insI; simp⟩
  | y :: X, x, h, hx => by
    have hy := List.pairwise_cons.1 h
    cases hl : itLt y x with
    | true =>
      have hi : insI (y :: X) x = y :: insI X x := by
        unfold insI
        rw [List.takeWhile_cons_of_pos (p := fun y => itLt y x) hl, List.dropWhile_cons_of_pos (p := fun y => itLt y x) hl]; rfl
      obtain ⟨g1, g2⟩ := insI_spec (X := X) (x := x) hy.2 (fun hh => hx (List.mem_cons_of_mem _ hh))
      rw [hi]
      refine ⟨List.pairwise_cons.2 ⟨fun z hz => ?_, g1⟩, fun z => ?_⟩
      · rcases (g2 z).1 hz with h' | h'
        · exact hy.1 z h'
        · rw [h']; exact hl
      · rw [List.mem_cons, g2 z, List.mem_cons, or_assoc]
    | false =>
      have hi : insI (y :: X) x = x :: y :: X := by
        unfold insI
        rw [List.takeWhile_cons_of_neg (p := fun y => itLt y x) (by simp [hl]), List.dropWhile_cons_of_neg (p := fun y => itLt y x) (by simp [hl])]; rfl
      have hxy : Lt x y := Lt.tot hl fun he => hx (he ▸ List.mem_cons_self ..)
      rw [hi]
      refine ⟨List.pairwise_cons.2 ⟨fun z hz => ?_, h⟩, fun z => ?_⟩
      · rcases List.mem_cons.1 hz with h' | h'
        · rw [h']; exact hxy
        · exact hxy.trans (hy.1 z h')
      · rw [List.mem_cons, or_comm]
theorem stepI_spec {X : List Item} {x : Item} (h : X.Pairwise Lt) (hinj : ∀ y ∈ X, y.id = x.id → y = x) : (stepI X x).Pairwise Lt ∧ ∀ z, z ∈ stepI X x ↔ z ∈ X ∨ z = x := by
  unfold stepI
  split
  · rename_i hc
    rw [List.contains_iff_mem] at hc
    obtain ⟨y, hy, hyx⟩ := List.mem_map.1 hc
    have hxX : x ∈ X := hinj y hy hyx ▸ hy
    exact ⟨h, fun z => ⟨.inl, fun hz => hz.elim id fun hz => hz ▸ hxX⟩⟩
  · rename_i hc
    exact insI_spec h fun hx => hc (by rw [List.contains_iff_mem]; exact List.mem_map.2 ⟨x, hx, rfl⟩)
theorem refI_spec : ∀ (items X : List Item), X.Pairwise Lt → (∀ y, (y ∈ X ∨ y ∈ items) → ∀ z ∈ items, y.id = z.id → y = z) → (items.foldl stepI X).Pairwise Lt ∧ ∀ z, z ∈ items.foldl stepI X ↔ z ∈ X ∨ z ∈ items
  | [], X, h, _ => ⟨h, fun z => by simp⟩
  | x :: items, X, h, hinj => by
    obtain ⟨g1, g2⟩ := stepI_spec h fun y hy he => hinj y (.inl hy) x (List.mem_cons_self ..) he
    obtain ⟨k1, k2⟩ := refI_spec items (stepI X x) g1 fun y hy z hz he => hinj y (by
      rcases hy with hy | hy
      · rcases (g2 y).1 hy with h' | h'
        · exact .inl h'
        · exact .inr (h' ▸ List.mem_cons_self ..)
      · exact .inr (List.mem_cons_of_mem _ hy)) z (List.mem_cons_of_mem _ hz) he
    refine ⟨k1, fun z => ?_⟩
    rw [List.foldl_cons, k2 z, g2 z, List.mem_cons, or_assoc]
theorem orders_eq (l : List Evt) (main ids : List Int) : rorder l main ids = order2 l main ids := by
  unfold rorder order2
  have hinj : ∀ y, (y ∈ ([] : List Item) ∨ y ∈ itemsOf l main ids) → ∀ z ∈ itemsOf l main ids, y.id = z.id → y = z := fun y hy z hz he => by
    have h1 := items_known (hy.resolve_left (by simp))
    have h2 := items_known hz
    rw [he, h2] at h1; exact (Option.some.inj h1).symm
  obtain ⟨h1, h2⟩ := refI_spec (itemsOf l main ids) [] .nil hinj
  obtain ⟨h3, h4⟩ := ordered (itemsOf l main ids)
  have : refI (itemsOf l main ids) = comp (sortIt (itemsOf l main ids)) := lt_unique h1 h3 fun z => by
    show z ∈ (itemsOf l main ids).foldl stepI [] ↔ _
    rw [h2 z, h4 z]; simp
  rw [this]; rfl
theorem order2_same (l : List Evt) (main : List Int) {a b : List Int} (h : ∀ n, n ∈ a ↔ n ∈ b) : order2 l main a = order2 l main b := by
  unfold order2
  obtain ⟨h1, h2⟩ := ordered (itemsOf l main a)
  obtain ⟨h3, h4⟩ := ordered (itemsOf l main b)
  rw [lt_unique h1 h3 fun z => by
    rw [h2 z, h4 z]
    unfold itemsOf
    rw [List.mem_filterMap, List.mem_filterMap]
    exact ⟨fun ⟨n, hn, hz⟩ => ⟨n, (h n).1 hn, hz⟩, fun ⟨n, hn, hz⟩ => ⟨n, (h n).2 hn, hz⟩⟩]
theorem order2_len (l : List Evt) (main ids : List Int) : (order2 l main ids).length ≤ ids.length := by
  unfold order2 comp
  have h1 := compU_len (sortIt (itemsOf l main ids)) (sortIt (itemsOf l main ids)).length
  have h2 := (sortIt_perm (itemsOf l main ids)).length_eq
  have h3 := items_len l main ids
  rw [List.length_map]; omega
set_option maxRecDepth 8000 in
set_option maxHeartbeats 4000000 in
theorem orders19_law (l : List Evt) (main ids : List Int) : AC Try.prog 5 [evs l, ints main, ints ids] (B true) := by
  refine AC.of_body Try.func5 rfl rfl Try.ntmps5 (congrArg Array.toList Try.results5) (by simp) (pures3 (pure_evs _) (pure_ints _) (pure_ints _)) (pure_B _) fun w S' => AWp.of_vc [] ?_
  simp [go_sem]
  refine CallSem.pure (few_ac l) (by simp [go_sem]) ?_
  cases hF : fewOf l with
  | false =>
    simp [go_sem]
    refine CallSem.pure lives19_ac (by simp [go_sem]) ?_
    simp [go_sem]
    refine PostR.ret ?_
    simp [go_sem]
  | true =>
    obtain ⟨h1, h2, _⟩ := few_spec hF
    by_cases hm : (30 : Int) < main.length
    · simp [go_sem, hm]
      refine CallSem.pure lives19_ac (by simp [go_sem]) ?_
      simp [go_sem]
      refine PostR.ret ?_
      simp [go_sem]
    by_cases hn : (30 : Int) < ids.length
    · simp [go_sem, hm, hn]
      refine CallSem.pure lives19_ac (by simp [go_sem]) ?_
      simp [go_sem]
      refine PostR.ret ?_
      simp [go_sem]
    have hw : IntKind.i64.wrap ((ids.length : Int) + 2) = (ids.length : Int) + 2 := wrap_i64 (by omega) (by omega)
    have t0 : (0 : Int) ≤ (ids.length : Int) + 2 := by omega
    have t1 : ((ids.length : Int) + 2).toNat = ids.length + 2 := by omega
    simp [go_sem, hm, hn, hw, t0, t1]
    refine ⟨⟨by omega, by omega⟩, ⟨by omega, by omega⟩, ?_⟩
    refine CallSem.freeze 25 ?_
    simp [go_sem]
    refine CallSem.pure (order2_ac l main ids h1 h2 (by omega)) (by simp [go_sem]) ?_
    simp [go_sem]
    refine CallSem.pure (rorder_ac l main ids h1 h2 (by omega)) (by simp [go_sem]) ?_
    rw [orders_eq]
    generalize order2 l main ids = O
    simp [go_sem]
    refine CallSem.pure (same_ac O O) (by simp [go_sem]) ?_
    simp [go_sem]
    refine CallSem.pure (same_ac ids ids) (by simp [go_sem]) ?_
    simp [go_sem]
    refine CallSem.pure lives19_ac (by simp [go_sem]) ?_
    simp [go_sem]
    refine PostR.ret ?_
    simp [go_sem]

end Go.Proofs.Ytmkchaiijfhnfaa
