/- The proof layer: the library's SortFunc at structs, on an array of the walk's own. No condition. -/
import Derived.Test.YtckoolpjphhfdaaFs
import Derived.Shelf.SlSortCmp.WholeK
import Derived.Shelf.SlSortCmp.NoneTotal
namespace Go.Abs
open Go Go.RowKit Go.Sort Go.Shelf Go.Proofs

theorem flatK_get {α : Type} (enc : α → List Value) (k : Nat) (h0 : 0 < k) (hk : ∀ x, (enc x).length = k) : ∀ (l : List α) (t : Nat), (l.flatMap enc)[t]? = (l[t / k]?).bind fun x => (enc x)[t % k]?
  | [], t => by simp
  | x :: l, t => by
    rw [List.flatMap_cons]
    by_cases ht : t < k
    · rw [List.getElem?_append_left (by rw [hk]; exact ht), Nat.div_eq_of_lt ht, Nat.mod_eq_of_lt ht]; rfl
    · have h1 : t / k = (t - k) / k + 1 := by
        have := Nat.add_div_right (t - k) h0
        rwa [Nat.sub_add_cancel (by omega)] at this
      have h2 : t % k = (t - k) % k := Nat.mod_eq_sub_mod (by omega)
      rw [List.getElem?_append_right (by rw [hk]; omega), hk, flatK_get enc k h0 hk l (t - k), h1, h2]; rfl
theorem flatK_len {α : Type} (enc : α → List Value) (k : Nat) (hk : ∀ x, (enc x).length = k) : ∀ l : List α, (l.flatMap enc).length = l.length * k
  | [] => by simp
  | x :: l => by rw [List.flatMap_cons, List.length_append, hk, flatK_len enc k hk l, List.length_cons, Nat.add_mul]; omega
theorem flatK_list {α : Type} [Inhabited α] (enc : α → List Value) (k : Nat) (h0 : 0 < k) (hk : ∀ x, (enc x).length = k) (l : List α) : (flatK enc k l.toArray).toList = l.flatMap enc := by
  apply List.ext_getElem?
  intro t
  rw [flatK_get enc k h0 hk]
  by_cases ht : t < l.length * k
  · have hd : t / k < l.length := Nat.div_lt_of_lt_mul (by rw [Nat.mul_comm]; exact ht)
    have hm : t % k < (enc l[t / k]).length := by rw [hk]; exact Nat.mod_lt _ h0
    have hf := get_flatK enc k l.toArray t (by simpa using ht)
    have hsz : t < (flatK enc k l.toArray).size := by rw [size_flatK]; simpa using ht
    rw [getElem!_pos _ t hsz] at hf
    rw [Array.getElem?_toList, Array.getElem?_eq_getElem hsz, hf, List.getElem?_eq_getElem hd]
    have hg : l.toArray[t / k]! = l[t / k] := by rw [getElem!_pos _ _ (by simpa using hd)]; simp
    rw [hg, Option.bind_some, List.getElem?_eq_getElem hm, getElem!_pos (enc l[t / k]) (t % k) hm]
  · have hd : l.length ≤ t / k := (Nat.le_div_iff_mul_le h0).2 (by omega)
    rw [List.getElem?_eq_none (by simpa using (by omega : l.length * k ≤ t)), List.getElem?_eq_none hd]; rfl
def aggs {α : Type} (enc : α → List Value) (l : List α) : List AV := l.map fun x => .agg ((enc x).map .v)
theorem flat_aggs {α : Type} (enc : α → List Value) (l : List α) : (aggs enc l).flatMap AV.cells = (l.flatMap enc).map .v := by
  induction l with
  | nil => rfl
  | cons x l ih =>
    unfold aggs at ih ⊢
    rw [List.map_cons, List.flatMap_cons, List.flatMap_cons, List.map_append, ih]; rfl

section
variable {G : Ctx} {st : St} {E : Env} {a : Act}
theorem fn_val {f : FuncId} {x : Value} (h : VR E (.fn (.func f) [] []) x) : x = .func (.func f) #[] #[] := by
  cases h with
  | fn _ _ _ us vs h1 h2 _ _ =>
    have e1 : us = #[] := by apply Array.eq_empty_of_size_eq_zero; simpa using h1.symm
    have e2 : vs = #[] := by apply Array.eq_empty_of_size_eq_zero; simpa using h2.symm
    rw [e1, e2]

/-- slices.SortFunc at structs, where the comparison parts whatever two elements are not one. -/
theorem CallSem.sortK {α : Type} [Inhabited α] {ρ : Ren} {id kk e k g : Nat} {l : List α} {dst : Option Tmp} {K : St → Prop} (L : SlLaysF0.n6 G.P ρ) (hfn : ∃ fn, G.P.funcs[ρ.f 6]? = some fn ∧ fn.body.isSome = true ∧ (fn.name == "runtime.NumGoroutine") = false)
    (aE : ∀ w, (isAgg (ρ.t 24)).run G.P w = .ok true w) (zE : ∀ w, (Go.sizeOf (ρ.t 24)).run G.P w = .ok k w) (enc : α → List Value) (h0 : 0 < k) (hke : ∀ x, (enc x).length = k) (h1 : ∀ x, ∀ v ∈ enc x, v.oneCell' = true) (cf : α → α → Int) (hO : SWO (ltOf cf))
    (hT : ∀ x y, (ltOf cf) x y = false → (ltOf cf) y x = false → x = y) (eg : ∀ args w, (callFunc g args).run G.P w = .ok (.enter g args) w)
    (hcmp : ∀ (x y : α) (W : World), Calls G.P g #[.agg (enc x).toArray, .agg (enc y).toArray] W fun e w' => e = .returned (.int .i64 (cf x y)) ∧ ∃ q os', w' = grow (W.drewN q) os')
    (hk : kk = st.ver id) (hh : st.h id = .arr e k (aggs enc l)) (hd : dstOK G.n dst) (hsz : l.length < 4611686018427387904)
    (hK : K ((st.setH id (.arr e k (aggs enc (l.mergeSort fun x y => !(ltOf cf) y x)))).put dst (.tup []))) : CallSem G (ρ.f 6) [.ref id kk, .fn (.func g) [] []] dst K st := by
  refine ⟨hfn, fun E a vs hr hl hv => ?_⟩
  have hs : vs = #[(E.own id).val, .func (.func g) #[] #[]] := by
    have h0 := hv 0 _ rfl
    have h1 := fn_val (hv 1 _ rfl)
    have h0' : vs.getD 0 undef = (E.own id).val := by cases h0 with | ref _ _ _ h1 h2 => exact h2 (by rw [hr.ver]; exact hk)
    have hs1 : vs.size = 2 := hl
    apply Array.ext
    · simpa using hl
    · intro i h3 h4
      have : i = 0 ∨ i = 1 := by omega
      rcases this with rfl | rfl
      · simpa [Array.getD_eq_getD_getElem?, hs1] using h0'
      · simpa [Array.getD_eq_getD_getElem?, hs1] using h1
  have hxs := flat_aggs enc l
  have hys := flat_aggs enc (l.mergeSort fun x y => !(ltOf cf) y x)
  have hlen1 : ∀ y ∈ aggs enc (l.mergeSort fun x y => !(ltOf cf) y x), y.cells.length = k := by
    intro y hy
    obtain ⟨x, _, rfl⟩ := List.mem_map.1 hy
    show ((enc x).map AV.v).length = k
    rw [List.length_map, hke]
  obtain ⟨hvl, hrow⟩ := hr.arrRow hh hxs
  have hve : E.ver id = st.ver id := by rw [hr.ver]
  rw [hs]
  have hll : (aggs enc l).length = l.length := by simp [aggs]
  rcases hrow with ⟨hnil, hx⟩ | ⟨gb, cap, cur, hval, hg, hheap, hn, hc, hcs, ht⟩
  · have hl0 : l = [] := by simpa [aggs] using hx
    subst hl0
    rw [hnil]
    refine (AnyF.slices_SortFunc_none L none 0 _ E.w).mono ?_
    rintro en w' ⟨rfl, rfl⟩
    refine ⟨_, rfl, _, E, rfl, Rel.put (r := .tup []) ?_ (.tup [] #[] rfl (by simp)) (fun d he => by rw [he] at hd; exact hd), hK⟩
    have : st.setH id (.arr e k (aggs enc (([] : List α).mergeSort fun x y => !(ltOf cf) y x))) = st := by
      simp only [St.setH, List.mergeSort_nil]
      rw [← hh, upd_self]
    rw [this]; exact hr
  · rw [hll] at hval hn
    simp only [hll] at ht hcs
    rw [hval]
    have hfl := flatK_list enc k h0 hke l
    have hfs : (flatK enc k l.toArray).size = l.length * k := by rw [size_flatK]; simp
    have hsz' : (flatK enc k l.toArray).size ≤ cur.size := by rw [hfs]; exact Nat.le_trans (Nat.mul_le_mul_right _ hn) hcs
    have hblt : gb < E.w.heap.size := (Array.getElem?_eq_some_iff.1 hheap).1
    have hH : HoldsK enc k E.w gb 0 l.toArray := holds_of (fun v : Value => v) hheap (flatK enc k l.toArray) hsz' (by rw [hfs, hfl]; simpa using ht)
    have hcall := AnyQ.slices_SortFunc_total L k aE zE enc hke h1 cf hO g #[] gb 0 cap l.toArray E.w eg (fun m os dk _ x y => hcmp x y _) hH hblt (by simpa using hsz) hT
    refine (Calls.mono (by simpa using hcall) ?_)
    rintro en w' ⟨rfl, n, os, rfl⟩
    have hml : (l.mergeSort fun x y => !(ltOf cf) y x).length = l.length := List.length_mergeSort _
    generalize l.mergeSort (fun x y => !(ltOf cf) y x) = l2 at hml hlen1 hys hK ⊢
    have hfl2 := flatK_list enc k h0 hke l2
    have hfs2 : (flatK enc k l2.toArray).size = l2.length * k := by rw [size_flatK]; simp
    obtain ⟨hgb, hb'⟩ := rowWorld (fun v : Value => v) hheap (flatK enc k l2.toArray) n os
    obtain ⟨E', hw, hver, hval', hrel⟩ := hr.rewrite (v' := (E.own id).val) hh (by rw [hval]; exact hgb) hlen1 hys (by
      rw [hval]
      refine ⟨by rw [flatK_len enc k hke]; simp [aggs], .inr ⟨gb, cap, _, by simp [aggs, hml], hg, hb', by simpa [aggs, hml] using hn, hc, ?_, ?_⟩⟩
      · rw [putCells_size]; exact hcs
      · have hlk : (aggs enc l2).length * k = (flatK enc k l2.toArray).size := by rw [hfs2]; simp [aggs]
        rw [hlk, putCells_take _ _ _ (by rw [hfs2, hml]; exact Nat.le_trans (Nat.mul_le_mul_right _ hn) hcs) _ (Nat.le_refl _), hfl2]
        rw [hfs2, ← List.map_take, List.take_of_length_le (by rw [flatK_len enc k hke]; exact Nat.le_refl _)]
        simp) (fun _ h => h) (E.ver id) (Nat.le_refl _) (fun _ => rfl)
    refine ⟨_, rfl, _, E', hw, Rel.put (r := .tup []) ?_ (.tup [] #[] rfl (by simp)) (fun d he => by rw [he] at hd; exact hd), hK⟩
    have : ({ st with ver := upd st.ver id (E.ver id), h := upd st.h id (.arr e k (aggs enc l2)) } : St) = st.setH id (.arr e k (aggs enc l2)) := by
      simp only [St.setH, hve, upd_self]
    rw [← this]; exact hrel
end
end Go.Abs
