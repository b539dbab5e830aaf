/- Contracts of chapter 19: Order, where no two items are the same. No condition. -/
import Derived.Test.YtmkchaiijfhnfaaM4
import Derived.Test.YtmkchaiijfhnfaaFw
import Derived.Test.YtmkchaiijfhnfaaLa
namespace Go.Proofs.Ytmkchaiijfhnfaa
open Go Go.Abs Go.Shelf Go.RowKit Go.Lib Go.Sort Go.Proofs
set_option linter.unusedSimpArgs false
def it (x : Item) : AV := .agg [I x.id, I x.closest, I x.time]
theorem its_eq (l : List Item) : aggs itc l = l.map it := rfl
def itemOf (l : List Evt) (main : List Int) (id : Int) : Option Item := (getE l id).map fun e => ⟨id, closeOf l main id, e.time⟩
def itemsOf (l : List Evt) (main ids : List Int) : List Item := ids.filterMap (itemOf l main)
def sortIt (L : List Item) : List Item := L.mergeSort fun x y => !(ltOf cmpT) y x
def orderOf (l : List Evt) (main ids : List Int) : List Int := (Lib.compact (sortIt (itemsOf l main ids))).map (·.id)
theorem items_succ {l : List Evt} {main ids : List Int} {q : Nat} (h : q < ids.length) : itemsOf l main (ids.take (q + 1)) = itemsOf l main (ids.take q) ++ (itemOf l main ids[q]).toList := by
  unfold itemsOf
  rw [List.take_succ_eq_append_getElem h, List.filterMap_append]
  simp only [List.filterMap_cons, List.filterMap_nil]
  cases itemOf l main ids[q] <;> rfl
theorem items_len (l : List Evt) (main ids : List Int) : (itemsOf l main ids).length ≤ ids.length := List.length_filterMap_le _ _
/-- No two neighbours are the same. -/
def Apart2 (L : List Item) : Prop := ∀ (j : Nat) a b, L[j]? = some a → L[j + 1]? = some b → b ≠ a
theorem apart_compact {L : List Item} (h : Apart2 L) : Lib.compact L = L := by
  refine compact_all L fun j hj => ?_
  cases j with
  | zero => simp [keeps]
  | succ j =>
    refine keeps_pos ?_
    have h1 : L.toArray[j + 1]! = L[j + 1] := by rw [getElem!_pos _ _ (by simpa using hj)]; simp
    have h2 : L.toArray[j + 1 - 1]! = L[j] := by rw [getElem!_pos _ _ (by simp; omega)]; simp
    rw [h1, h2]
    exact h j _ _ (List.getElem?_eq_getElem (by omega)) (List.getElem?_eq_getElem hj)
def outI (L : List Item) (q : Nat) : List AV := ((L.take q).map (·.id)).map I
theorem outI_zero (L : List Item) : outI L 0 = [] := rfl
theorem outI_step {L : List Item} {q : Nat} (h : q < L.length) : outI L (q + 1) = outI L q ++ [I L[q].id] := by
  unfold outI
  rw [List.take_succ_eq_append_getElem h, List.map_append, List.map_append]; rfl
theorem outI_len {L : List Item} {q : Nat} (h : q ≤ L.length) : (outI L q).length = q := by
  unfold outI
  rw [List.length_map, List.length_map, List.length_take]; omega
theorem outI_full {L : List Item} {q : Nat} (h : L.length ≤ q) : outI L q = (L.map (·.id)).map I := by
  unfold outI
  rw [List.take_of_length_le h]
theorem AWp_post {G : Ctx} {c : Code} {Q : Exit → St → Prop} {st : St} (h : ∀ Q' : Exit → St → Prop, Q' = Q → AWp G c Q' st) : AWp G c Q st := h Q rfl
set_option maxRecDepth 8000 in
set_option maxHeartbeats 4000000 in
theorem order_ac (l : List Evt) (main ids : List Int) (hsz : l.length ≤ 100000) (hf : Few l) (hid : ids.length ≤ 100000) (hap : Apart2 (sortIt (itemsOf l main ids))) : AC Try.prog 15 [evs l, ints main, ints ids] (ints (orderOf l main ids)) := by
  refine AC.of_body Try.func15 rfl rfl Try.ntmps15 (congrArg Array.toList Try.results15) (by simp) (pures3 (pure_evs _) (pure_ints _) (pure_ints _)) (pureR_ints _) fun w S' => AWp.of_vc [] ?_
  have hm : ids.length ≤ maxLen := by unfold maxLen; omega
  have hil := items_len l main ids
  simp [go_sem]
  refine AWp.ownNil 7 57 3 (by simp [go_sem]) ?_
  refine AWp.loop_vc [] (fun m s => ∃ q v : Nat, q ≤ ids.length ∧ m = ids.length - q ∧ s.σ 0 = evs l ∧ s.σ 1 = ints main ∧ s.σ 15 = ints ids ∧ s.σ 16 = I ids.length ∧ s.σ 17 = I q ∧ s.σ 7 = .ref 7 v ∧ s.ver 7 = v ∧ s.h 7 = .arr 57 3 ((itemsOf l main (ids.take q)).map it)) ids.length ⟨0, 1, by simp [go_sem, itemsOf]⟩ ?_
  rintro m s ⟨q, v, hq, rfl, h0, h1, h15, h16, h17, h7, hv7, hh7⟩
  have hol := items_len l main (ids.take q)
  rw [List.length_take] at hol
  by_cases hlt : q < ids.length
  · have hsu := items_succ (l := l) (main := main) hlt
    simp [go_sem, h0, h1, h15, h16, h17, h7, hv7, hh7, hlt]
    refine CallSem.pure (sget_ac l ids[q]) (by simp [go_sem]) ?_
    unfold itemOf at hsu
    cases hg : getE l ids[q] with
    | none =>
      rw [hg] at hsu
      simp [go_sem, h0, h1, h15, h16, h17, h7, hv7, hh7, hlt, wrap_succ hlt hm]
      exact ⟨ids.length - (q + 1), by omega, q + 1, by omega, rfl, rfl, by rw [hsu]; simp⟩
    | some x =>
      rw [hg] at hsu
      simp [go_sem, h0, h1, h15, h16, h17, h7, hv7, hh7, hlt]
      refine AWp.draw (n := 10) [] rfl (by kernel_rfl) ?_
      simp [go_sem, h0, h1, h15, h16, h17, h7, hv7, hh7, hlt]
      refine CalmThen.pure (close_ac l main ids[q] hsz hf) rfl ?_
      simp [go_sem, h0, h1, h15, h16, h17, h7, hv7, hh7, hlt, wrap_succ hlt hm]
      exact ⟨⟨by omega, by omega⟩, ids.length - (q + 1), by omega, q + 1, by omega, rfl, rfl, by rw [hsu]; simp [it, I]⟩
  · rw [List.take_of_length_le (by omega)] at hh7
    unfold orderOf
    rw [apart_compact hap]
    unfold sortIt at hap ⊢
    generalize hI : itemsOf l main ids = items at hap hil hh7 ⊢
    simp [go_sem, h0, h1, h15, h16, h17, h7, hv7, hh7, hlt]
    refine CallSem.sortK (ρ := Try.sortF26_ren) (id := 7) (e := 57) (k := 3) (l := items) Try.sortF26 ⟨_, Try.func26, rfl, rfl⟩
      Try.isAgg57 Try.sizeOf57 itc (by decide) itc_len itc_one cmpT cmpT_swo cmpT_tot (enters_of Try.func27 (by kernel_rfl) rfl) closure_calls (by simp [go_sem, hv7]) (by simp [go_sem, hh7]; rfl) (by simp [go_sem]) (by omega) ?_
    have hml : (items.mergeSort fun x y => !(ltOf cmpT) y x).length = items.length := List.length_mergeSort _
    generalize items.mergeSort (fun x y => !(ltOf cmpT) y x) = L at hap hml ⊢
    have hLm : L.length ≤ maxLen := by unfold maxLen; omega
    simp [go_sem, its_eq, h7, hv7]
    refine CallSem.inline 30000 Try.func29 rfl rfl Try.ntmps29 (congrArg Array.toList Try.results29) (by simp) (by simp [go_sem]) fun e1 => AWp_post fun Q' hQ => AWp.of_vc [] ?_
    have key : ∀ s' : St, s'.σ 2 = .ref 7 v → s'.ver 7 = v → s'.h 7 = .arr 57 3 (L.map it) → Q' .ret s' := by
      intro s' g2 gv gh
      rw [hQ]
      refine PostIn.ret (r := .ref 7 v) (by simp [go_sem, resIn, g2]) ?_
      clear hQ Q'
      simp [go_sem, gv, gh]
      refine AWp.ownNil 12 3 1 (by simp [go_sem]) ?_
      refine AWp.loop_vc [] (fun m t => ∃ q u : Nat, q ≤ L.length ∧ m = L.length - q ∧ t.σ 43 = .ref 7 v ∧ t.σ 44 = I L.length ∧ t.σ 45 = I q ∧ t.ver 7 = v ∧ t.h 7 = .arr 57 3 (L.map it) ∧ t.σ 12 = .ref 12 u ∧ t.ver 12 = u ∧ t.h 12 = .arr 3 1 (outI L q)) L.length ⟨0, s'.ver 12 + 1, by simp [go_sem, gv, gh, outI_zero]⟩ ?_
      clear g2 gv gh
      rintro m t ⟨q, u, hq, rfl, k43, k44, k45, kv, kh, k12, kv12, kh12⟩
      by_cases hlt : q < L.length
      · have hstep := outI_step hlt
        have hql := outI_len hq
        simp [go_sem, k43, k44, k45, kv, kh, k12, kv12, kh12, hlt, it, wrap_succ hlt hLm]
        exact ⟨⟨by omega, by omega⟩, L.length - (q + 1), by omega, q + 1, by omega, rfl, rfl, hstep.symm⟩
      · rw [outI_full (by omega)] at kh12
        simp [go_sem, k43, k44, k45, kv, kh, k12, kv12, kh12, hlt]
        refine PostR.retW [12] ?_ (.refl _)
        simp [go_sem, k12, kv12, kh12]
    clear hQ
    by_cases hl2 : L.length < 2
    · have hl2' : (L.length : Int) < 2 := by omega
      simp [go_sem, h7, hv7, hl2']
      refine key _ (by simp [go_sem]) (by simp [go_sem, hv7]) (by simp [go_sem])
    · have hl2' : ¬ (L.length : Int) < 2 := by omega
      simp [go_sem, h7, hv7, hl2']
      refine AWp.loop_vc [] (fun m s' => ∃ q : Nat, q + 1 ≤ L.length ∧ m = L.length - (q + 1) ∧ s'.σ 0 = .ref 7 v ∧ s'.σ 3 = I ((q : Int) + 1) ∧ s'.ver 7 = v ∧ s'.h 7 = .arr 57 3 (L.map it)) (L.length - 1) ⟨0, by omega, by omega, by simp [go_sem], by simp [go_sem], by simp [go_sem, hv7], by simp [go_sem]⟩ ?_
      rintro m s' ⟨q, hq, rfl, g0, g3, gv, gh⟩
      by_cases hlt : q + 1 < L.length
      · have hq' : q < L.length := by omega
        have hw : IntKind.i64.wrap (q : Int) = (q : Int) := wrap_nat (by omega)
        have t1 : (0 : Int) ≤ (q : Int) + 1 := by omega
        have t2 : ((q : Int) + 1).toNat = q + 1 := by omega
        have t4 : (q : Int) + 1 < L.length := by omega
        have hne := hap q _ _ (List.getElem?_eq_getElem hq') (List.getElem?_eq_getElem hlt)
        have hws : IntKind.i64.wrap ((q : Int) + 1 + 1) = (q : Int) + 1 + 1 := by have := wrap_succ hlt hLm; simpa using this
        simp [go_sem, g0, g3, gv, gh, t4]
        refine AWp.drawAll rfl (by kernel_rfl) ?_
        have hneq : L[q + 1].id = L[q].id → L[q + 1].closest = L[q].closest → ¬ L[q + 1].time = L[q].time := fun a b c => hne (by cases hx : L[q + 1]; cases hy : L[q]; rw [hx, hy] at a b c; simp only at a b c; rw [a, b, c])
        simp [go_sem, g0, g3, gv, gh, t1, t2, t4, hlt, hq', hw, it]
        rw [if_neg fun h => hneq h.1 h.2.1 h.2.2]
        simp [go_sem, g0, g3, gv, gh, hws]
        exact ⟨L.length - (q + 1 + 1), by omega, q + 1, by omega, rfl, by simp⟩
      · have t4 : ¬ (q : Int) + 1 < L.length := by omega
        simp [go_sem, g0, g3, gv, gh, t4]
        refine key _ (by simp [go_sem, g0]) (by simp [go_sem, gv]) (by simp [go_sem, gh])
end Go.Proofs.Ytmkchaiijfhnfaa
