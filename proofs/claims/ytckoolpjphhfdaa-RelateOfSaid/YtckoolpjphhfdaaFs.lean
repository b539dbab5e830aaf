/- The proof layer: own arrays that a callee rewrites in place; the library's Sort and Compact at ints. No condition. -/
import Derived.Test.YtckoolpjphhfdaaFm
import Derived.Shelf.Sort.Plain
import Derived.Shelf.Slices.In.SortNone
import Derived.Shelf.Slices.CompactI
namespace Go.Abs
open Go Go.RowKit Go.Sort Go.Shelf Go.Proofs

theorem compact_len {α : Type} [Inhabited α] [DecidableEq α] (l : List α) : (Lib.compact l).length ≤ l.length := by
  unfold Lib.compact Lib.compactUpTo
  rw [List.length_map]
  exact Nat.le_trans (List.length_filter_le _ _) (by simp)

theorem putCells_size {α : Type} [Inhabited α] (enc : α → Value) (off : Nat) (d : Array α) (c : Array Value) : (putCells enc off d c).size = c.size := by simp [putCells]

theorem putCells_take {α : Type} [Inhabited α] (enc : α → Value) (d : Array α) (c : Array Value) (h : d.size ≤ c.size) (m : Nat) (hm : m ≤ d.size) : (putCells enc 0 d c).toList.take m = (d.toList.map enc).take m := by
  apply List.ext_getElem?
  intro k
  by_cases hk : k < m
  · rw [List.getElem?_take, if_pos hk, List.getElem?_take, if_pos hk, Array.getElem?_toList, List.getElem?_map, Array.getElem?_toList]
    have hd : k < d.size := by omega
    have hc : k < c.size := by omega
    simp [putCells, hd, hc, getElem!_pos d k hd]
  · rw [List.getElem?_take, if_neg hk, List.getElem?_take, if_neg hk]

theorem rowWorld {α : Type} [Inhabited α] (enc : α → Value) {w : World} {blk : Nat} {cur : Array Value} {e : TypeId} (hb : w.heap[blk]? = some (.cells cur e (0, 0))) (d : Array α) (n : Nat) (os : Array Obj) :
    w.grownBy (grow (putRow enc (Sort.ahead w n) blk 0 d) os) (some blk) ∧ (grow (putRow enc (Sort.ahead w n) blk 0 d) os).heap[blk]? = some (.cells (putCells enc 0 d cur) e (0, 0)) := by
  have hlt : blk < w.heap.size := (Array.getElem?_eq_some_iff.1 hb).1
  refine ⟨⟨rfl, rfl, rfl, by simp, fun k hk hne => ?_⟩, ?_⟩
  · rw [heap_grow_old _ _ (by simpa using hk)]
    simp only [putRow, mapBlock, heap_ahead, Array.getElem?_modify]
    rw [if_neg (fun he => hne (by rw [he]))]
  · rw [heap_grow_old _ _ (by simpa using hlt)]
    simp only [putRow, mapBlock, heap_ahead, Array.getElem?_modify, if_true]
    rw [hb]; rfl

theorem holds_of {α : Type} [Inhabited α] (enc : α → Value) {w : World} {blk : Nat} {cur : Array Value} {e : TypeId} (hb : w.heap[blk]? = some (.cells cur e (0, 0))) (d : Array α) (h : d.size ≤ cur.size) (ht : cur.toList.take d.size = d.toList.map enc) : Holds enc w blk 0 d := by
  intro j hj
  refine ⟨?_, ?_⟩
  · rw [cell_of_row _ _ _ _ _ _ hb, Nat.zero_add]
    have h1 : (cur.toList.take d.size)[j]? = cur[j]? := by rw [List.getElem?_take, if_pos hj, Array.getElem?_toList]
    rw [← h1, ht]
    simp [hj, getElem!_pos d j hj]
  · simp [World.frozen?, hb]

section
variable {G : Ctx} {st : St} {E : Env} {a : Act}

theorem VRs_v {ps : List AV} {vs us : List Value} (h : VRs E ps us) (has : ps = vs.map .v) : us = vs := by
  subst has
  obtain ⟨h1, h2⟩ := h
  refine List.ext_getElem? fun i => ?_
  simp only [List.length_map] at h1
  by_cases hi : i < vs.length
  · have e1 : vs[i]? = some vs[i] := List.getElem?_eq_getElem hi
    have e2 : us[i]? = some (us[i]'(by omega)) := List.getElem?_eq_getElem _
    have := h2 i (.v vs[i]) _ (by simp [e1]) e2
    rw [e1, e2, this.v_inv]
  · rw [List.getElem?_eq_none (by omega), List.getElem?_eq_none (by omega)]

theorem vrs_v (vs : List Value) {ps : List AV} (has : ps = vs.map .v) : VRs E ps vs := by
  subst has
  refine ⟨by simp, fun i c u hc hu => ?_⟩
  simp only [List.getElem?_map, Option.map_eq_some_iff] at hc
  obtain ⟨x, hx, rfl⟩ := hc
  rw [hx] at hu; cases hu; exact .v _

theorem flat_ints (l : List Int) : (l.map fun n => AV.v (.int .i64 n)).flatMap AV.cells = (l.map (Value.int .i64)).map .v := by
  induction l with
  | nil => rfl
  | cons n l ih => simp [AV.cells, ih]

/-- An own array of plain values that was rewritten in place. -/
theorem Rel.rewrite (hr : Rel G st E a) {id e sz : Nat} {xs ys : List AV} (hh : st.h id = .arr e sz xs) {w' : World} (hg : E.w.grownBy w' (E.own id).val.ownBlock) {vs' : List Value} (hlen : ∀ y ∈ ys, y.cells.length = sz) (hys : ys.flatMap AV.cells = vs'.map .v)
    {v' : Value} (hown : w'.ownsRowW G.w0.heap.size e sz v' ys.length vs') (hob : ∀ b, v'.ownBlock = some b → (E.own id).val.ownBlock = some b) (k : Nat) (hk : E.ver id ≤ k) (hkeep : k = E.ver id → v' = (E.own id).val) :
    ∃ E', E'.w = w' ∧ E'.ver = upd E.ver id k ∧ (E'.own id).val = v' ∧ Rel G { st with ver := upd st.ver id k, h := upd st.h id (.arr e sz ys) } E' a := by
  have hb := hr.blocks id
  rw [hh] at hb
  obtain ⟨hsz, us, hown0, hlen0, hvs0, hblk0⟩ := hb
  let o : Own := ⟨v', (E.own id).blk, (E.own id).sz⟩
  refine ⟨{ ver := upd E.ver id k, own := upd E.own id o, S := E.S, w := w' }, rfl, rfl, by simp [upd, o], ?_⟩
  refine hr.own id (.arr e sz ys) o k rfl hk rfl (fun h => by simp only [o]; rw [hkeep h]) rfl (hr.below.grown hg hr.below.size fun j hj => ?_) hg.size (fun b hlt hne => hg.block b hlt ?_) ?_ fun b hb => ?_
  · exact (hown0.lt j hj).1
  · rw [hh] at hne; exact fun he => hne he.symm
  · exact ⟨hsz, vs', hown, hlen, vrs_v vs' hys, fun b hb => ⟨(hblk0 b (hob b hb)).1, (hblk0 b (hob b hb)).2⟩⟩
  · rw [hh]; exact .inl (hob b hb)

/-- The body's own row, as a callee sees it. -/
theorem Rel.arrRow (hr : Rel G st E a) {id e sz : Nat} {xs : List AV} (hh : st.h id = .arr e sz xs) {vs : List Value} (hxs : xs.flatMap AV.cells = vs.map .v) :
    vs.length = xs.length * sz ∧ (((E.own id).val = .slice none 0 0 ∧ xs = []) ∨ ∃ g cap cur, (E.own id).val = .slice (some ⟨g, 0, none⟩) xs.length cap ∧ G.w0.heap.size ≤ g ∧ E.w.heap[g]? = some (.cells cur e (0, 0)) ∧ xs.length ≤ cap ∧ cap ≤ maxLen ∧ cap * sz ≤ cur.size ∧ cur.toList.take (xs.length * sz) = vs) := by
  have hb := hr.blocks id
  rw [hh] at hb
  obtain ⟨hsz, us, hown, hlen, hvs, hblk⟩ := hb
  have := VRs_v hvs hxs
  subst this
  refine ⟨hown.1, ?_⟩
  rcases hown.2 with ⟨h1, h2⟩ | h
  · exact .inl ⟨h1, List.eq_nil_of_length_eq_zero h2⟩
  · exact .inr h

theorem upd_self {α : Type} (f : Nat → α) (i : Nat) : upd f i (f i) = f := by funext j; simp only [upd]; split <;> simp_all

/-- slices.Sort at ints, on an array of the walk's own. -/
theorem CallSem.sortInts {ρ : Ren} {id k e : Nat} {l : List Int} {dst : Option Tmp} {K : St → Prop} (L : Lays.n189 G.P ρ) (hfn : ∃ fn, G.P.funcs[ρ.f 189]? = some fn ∧ fn.body.isSome = true ∧ (fn.name == "runtime.NumGoroutine") = false)
    (hk : k = st.ver id) (hh : st.h id = .arr e 1 (l.map fun n => .v (.int .i64 n))) (hd : dstOK G.n dst) (hsz : l.length < 4611686018427387904)
    (hK : K ((st.setH id (.arr e 1 ((l.mergeSort fun x y => decide (x ≤ y)).map fun n => .v (.int .i64 n)))).put dst (.tup []))) : CallSem G (ρ.f 189) [.ref id k] dst K st := by
  refine ⟨hfn, fun E a vs hr hl hv => ?_⟩
  have hs : vs = #[(E.own id).val] := by
    have h0 := hv 0 _ rfl
    have : vs.getD 0 undef = (E.own id).val := by cases h0 with | ref _ _ _ h1 h2 => exact h2 (by rw [hr.ver]; exact hk)
    have hs1 : vs.size = 1 := hl
    apply Array.ext
    · simpa using hl
    · intro i h1 h2
      have : i = 0 := by omega
      subst this
      simpa [Array.getD_eq_getD_getElem?, hs1] using this
  have hxs : (l.map fun n => AV.v (.int .i64 n)).flatMap AV.cells = (l.map (Value.int .i64)).map .v := by
    exact flat_ints _
  have hys : ((l.mergeSort fun x y => decide (x ≤ y)).map fun n => AV.v (.int .i64 n)).flatMap AV.cells = ((l.mergeSort fun x y => decide (x ≤ y)).map (Value.int .i64)).map .v := by
    exact flat_ints _
  have hlen1 : ∀ y ∈ ((l.mergeSort fun x y => decide (x ≤ y)).map fun n => AV.v (.int .i64 n)), y.cells.length = 1 := by
    intro y hy; obtain ⟨n, _, rfl⟩ := List.mem_map.1 hy; rfl
  obtain ⟨hvl, hrow⟩ := hr.arrRow hh hxs
  have hve : E.ver id = st.ver id := by rw [hr.ver]
  rw [hs]
  rcases hrow with ⟨hnil, hx⟩ | ⟨g, cap, cur, hval, hg, hheap, hn, hc, hcs, ht⟩
  · have hl0 : l = [] := by simpa using hx
    subst hl0
    rw [hnil]
    refine (Any.slices_Sort_int_none L none 0 E.w).mono ?_
    rintro en w' ⟨rfl, rfl⟩
    refine ⟨_, rfl, _, E, rfl, Rel.put (r := .tup []) ?_ (.tup [] #[] rfl (by simp)) (fun d he => by rw [he] at hd; exact hd), hK⟩
    have : st.setH id (.arr e 1 (([] : List Int).mergeSort (fun x y => decide (x ≤ y)) |>.map fun n => AV.v (.int .i64 n))) = st := by
      simp only [St.setH, List.mergeSort_nil, List.map_nil]
      have h1 : st.h id = .arr e 1 [] := by simpa using hh
      rw [← h1, upd_self]
    rw [this]; exact hr
  · have hll : (l.map fun n => AV.v (.int .i64 n)).length = l.length := by simp
    rw [hll] at hval hn
    simp only [hll, Nat.mul_one] at ht hcs
    rw [hval]
    have hsz' : l.toArray.size ≤ cur.size := by simp; omega
    have hblt : g < E.w.heap.size := (Array.getElem?_eq_some_iff.1 hheap).1
    refine (Any.slices_Sort_int L g 0 cap l E.w (holds_of _ hheap l.toArray hsz' (by simpa using ht)) hblt hsz).mono ?_
    rintro en w' ⟨rfl, n, os, rfl⟩
    obtain ⟨hgb, hb'⟩ := rowWorld (Value.int .i64) hheap (l.mergeSort fun x y => decide (x ≤ y)).toArray n os
    have hml : (l.mergeSort fun x y => decide (x ≤ y)).length = l.length := List.length_mergeSort _
    obtain ⟨E', hw, hver, hval', hrel⟩ := hr.rewrite (v' := (E.own id).val) hh (by rw [hval]; exact hgb) hlen1 hys (by
      rw [hval]
      refine ⟨by simp [hml], .inr ⟨g, cap, _, by simp [hml], hg, hb', by simpa [hml] using hn, hc, ?_, ?_⟩⟩
      · rw [putCells_size]; simpa using hcs
      · rw [putCells_take _ _ _ (by simp [hml]; omega) _ (by simp), List.take_of_length_le (by simp)]) (fun _ h => h) (E.ver id) (Nat.le_refl _) (fun _ => rfl)
    refine ⟨_, rfl, _, E', hw, Rel.put (r := .tup []) ?_ (.tup [] #[] rfl (by simp)) (fun d he => by rw [he] at hd; exact hd), hK⟩
    have : ({ st with ver := upd st.ver id (E.ver id), h := upd st.h id (.arr e 1 ((l.mergeSort fun x y => decide (x ≤ y)).map fun n => AV.v (.int .i64 n))) } : St) = st.setH id (.arr e 1 ((l.mergeSort fun x y => decide (x ≤ y)).map fun n => .v (.int .i64 n))) := by
      simp only [St.setH, hve, upd_self]
    rw [← this]; exact hrel

/-- slices.Compact at ints, on an array of the walk's own. -/
theorem CallSem.compactInts {ρ : Ren} {id k e : Nat} {l : List Int} {dst : Option Tmp} {K : St → Prop} (L : Lays2.n20 G.P ρ) (hfn : ∃ fn, G.P.funcs[ρ.f 20]? = some fn ∧ fn.body.isSome = true ∧ (fn.name == "runtime.NumGoroutine") = false)
    (hk : k = st.ver id) (hh : st.h id = .arr e 1 (l.map fun n => .v (.int .i64 n))) (hd : dstOK G.n dst) (hcl : (Lib.compact l).length ≤ l.length)
    (hK : K ((st.setArr id e 1 ((Lib.compact l).map fun n => .v (.int .i64 n))).put dst (.ref id (st.ver id + 1)))) : CallSem G (ρ.f 20) [.ref id k] dst K st := by
  refine ⟨hfn, fun E a vs hr hl hv => ?_⟩
  have hs : vs = #[(E.own id).val] := by
    have h0 := hv 0 _ rfl
    have : vs.getD 0 undef = (E.own id).val := by cases h0 with | ref _ _ _ h1 h2 => exact h2 (by rw [hr.ver]; exact hk)
    have hs1 : vs.size = 1 := hl
    apply Array.ext
    · simpa using hl
    · intro i h1 h2
      have : i = 0 := by omega
      subst this
      simpa [Array.getD_eq_getD_getElem?, hs1] using this
  have hxs : (l.map fun n => AV.v (.int .i64 n)).flatMap AV.cells = (l.map (Value.int .i64)).map .v := by
    exact flat_ints _
  have hys : ((Lib.compact l).map fun n => AV.v (.int .i64 n)).flatMap AV.cells = ((Lib.compact l).map (Value.int .i64)).map .v := by
    exact flat_ints _
  have hlen1 : ∀ y ∈ ((Lib.compact l).map fun n => AV.v (.int .i64 n)), y.cells.length = 1 := by
    intro y hy; obtain ⟨n, _, rfl⟩ := List.mem_map.1 hy; rfl
  obtain ⟨hvl, hrow⟩ := hr.arrRow hh hxs
  have hve : E.ver id = st.ver id := by rw [hr.ver]
  rw [hs]
  rcases hrow with ⟨hnil, hx⟩ | ⟨g, cap, cur, hval, hg, hheap, hn, hc, hcs, ht⟩
  · have hl0 : l = [] := by simpa using hx
    subst hl0
    have hc0 : Lib.compact ([] : List Int) = [] := List.eq_nil_of_length_eq_zero (by simpa using hcl)
    rw [hnil]
    refine (Any.slices_Compact_int_empty L none 0 E.w).mono ?_
    rintro en w' ⟨rfl, rfl⟩
    obtain ⟨E', hw, hver, hval', hrel⟩ := hr.rewrite (v' := .slice none 0 0) (w' := E.w) hh ⟨rfl, rfl, rfl, Nat.le_refl _, fun _ _ _ => rfl⟩ hlen1 hys (by rw [hc0]; exact ⟨by simp, .inl ⟨rfl, rfl⟩⟩) (fun b h => by simp [Value.ownBlock] at h) (st.ver id + 1) (by omega) (fun h => by omega)
    refine ⟨_, rfl, _, E', hw, Rel.put hrel (.ref _ _ _ ?_ fun _ => ?_) (fun d he => by rw [he] at hd; exact hd), hK⟩
    · rw [hver]; simp [upd]
    · rw [hval']
  · have hll : (l.map fun n => AV.v (.int .i64 n)).length = l.length := by simp
    rw [hll] at hval hn
    simp only [hll, Nat.mul_one] at ht hcs
    rw [hval]
    have hsz : l.toArray.size ≤ cur.size := by simp; omega
    refine (Any.slices_Compact_int L g 0 cap l E.w (holds_of _ hheap l.toArray hsz (by simpa using ht)) (by unfold maxLen at hc; omega) hn).mono ?_
    rintro en w' ⟨rfl, q, rfl⟩
    obtain ⟨hgb, hb'⟩ := rowWorld (Value.int .i64) hheap (Lib.compact l ++ List.replicate (l.length - (Lib.compact l).length) 0).toArray q #[]
    simp only [grow_empty] at hgb hb'
    obtain ⟨E', hw, hver, hval', hrel⟩ := hr.rewrite (v' := .slice (some ⟨g, 0, none⟩) (Lib.compact l).length cap) hh (by rw [hval]; exact hgb) hlen1 hys (by
      refine ⟨by simp, .inr ⟨g, cap, _, by simp, hg, hb', by simp; omega, hc, ?_, ?_⟩⟩
      · rw [putCells_size]; simpa using hcs
      · rw [putCells_take _ _ _ (by simp; omega) _ (by simp)]
        simp [List.take_append]) (fun b h => by rw [hval]; exact h) (st.ver id + 1) (by omega) (fun h => by omega)
    refine ⟨_, rfl, _, E', hw, Rel.put hrel (.ref _ _ _ ?_ fun _ => ?_) (fun d he => by rw [he] at hd; exact hd), hK⟩
    · rw [hver]; simp [upd]
    · rw [hval']

end
end Go.Abs
