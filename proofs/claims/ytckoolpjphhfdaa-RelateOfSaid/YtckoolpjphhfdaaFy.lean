/- The proof layer: maps of the walk's own. No condition. -/
import Derived.Test.YtckoolpjphhfdaaFh
namespace Go.Abs
open Go Go.RowKit

/-- A map with an entry stored. -/
def mput (es : Array MapEntry) (clk : Nat) (n : Int) (v : Value) : Array MapEntry × Nat :=
  match findI n es.toList 0 with
  | some x => (es.modify x.1 fun e => { e with key := .int .i64 n, val := v }, clk)
  | none => (es.push { key := .int .i64 n, val := v, born := clk }, clk + 1)

theorem keyIs_key {n : Int} {e : MapEntry} (h : keyIs n e = true) : e.key = .int .i64 n := by
  unfold keyIs at h
  split at h
  · rename_i a ha
    rw [ha]
    have : n = a := by simpa using h
    rw [this]
  · cases h
theorem findI_some (n : Int) : ∀ (l : List MapEntry) (i : Nat) (x : Nat × Value), findI n l i = some x → ∃ j e, x = (i + j, e.val) ∧ l[j]? = some e ∧ keyIs n e = true ∧ ∀ k e', k < j → l[k]? = some e' → keyIs n e' = false
  | [], i, x, h => by cases h
  | e :: l, i, x, h => by
    unfold findI at h
    split at h
    · rename_i hk
      cases h
      exact ⟨0, e, rfl, rfl, hk, fun k e' hk => by omega⟩
    · rename_i hk
      obtain ⟨j, e', rfl, h1, h2, h3⟩ := findI_some n l (i + 1) x h
      refine ⟨j + 1, e', by rw [Nat.add_assoc, Nat.add_comm 1 j], by simpa using h1, h2, fun k e2 hk2 he2 => ?_⟩
      cases k with
      | zero => simp at he2; subst he2; simpa using hk
      | succ k => exact h3 k e2 (by omega) (by simpa using he2)
theorem findI_none (n : Int) : ∀ (l : List MapEntry) (i : Nat), findI n l i = none ↔ ∀ e ∈ l, keyIs n e = false
  | [], i => by simp [findI]
  | e :: l, i => by
    unfold findI
    cases hk : keyIs n e with
    | true => simp [hk]
    | false => simp [hk, findI_none n l (i + 1)]

def qput (es : Array MapEntry) (clk : Nat) (k : KeyQ) (v : Value) : Array MapEntry × Nat :=
  match findQ k es.toList 0 with
  | some x => (es.modify x.1 fun e => { e with key := k.val, val := v }, clk)
  | none => (es.push { key := k.val, val := v, born := clk }, clk + 1)
theorem bytes_toList {a b : ByteArray} (h : (a.toList == b.toList) = true) : a = b := by
  rw [← beq_toListBytes] at h
  exact (MapKept.bytes_beq a b).1 h
theorem is_key {k : KeyQ} {v : Value} (h : k.is v = true) : v = k.val := by
  cases k with
  | txt s =>
    unfold KeyQ.is at h
    split at h
    · rename_i s' x hs; cases hs; rw [bytes_toList h]; rfl
    · rename_i hs; cases hs
    · cases h
  | two a b =>
    unfold KeyQ.is at h
    split at h
    · rename_i hs; cases hs
    · rename_i a' b' us hs
      cases hs
      split at h
      · rename_i x y hxy
        rw [Bool.and_eq_true] at h
        rw [bytes_toList h.1, bytes_toList h.2]
        unfold KeyQ.val
        congr 1
        rw [← Array.toList_inj]; exact hxy
      · cases h
    · cases h
theorem findQ_some (n : KeyQ) : ∀ (l : List MapEntry) (i : Nat) (x : Nat × Value), findQ n l i = some x → ∃ j e, x = (i + j, e.val) ∧ l[j]? = some e ∧ n.is e.key = true ∧ ∀ k e', k < j → l[k]? = some e' → n.is e'.key = false
  | [], i, x, h => by cases h
  | e :: l, i, x, h => by
    unfold findQ at h
    split at h
    · rename_i hk
      cases h
      exact ⟨0, e, rfl, rfl, hk, fun k e' hk => by omega⟩
    · rename_i hk
      obtain ⟨j, e', rfl, h1, h2, h3⟩ := findQ_some n l (i + 1) x h
      refine ⟨j + 1, e', by rw [Nat.add_assoc, Nat.add_comm 1 j], by simpa using h1, h2, fun k e2 hk2 he2 => ?_⟩
      cases k with
      | zero => simp at he2; subst he2; simpa using hk
      | succ k => exact h3 k e2 (by omega) (by simpa using he2)
theorem findQ_none (n : KeyQ) : ∀ (l : List MapEntry) (i : Nat), findQ n l i = none ↔ ∀ e ∈ l, n.is e.key = false
  | [], i => by simp [findQ]
  | e :: l, i => by
    unfold findQ
    cases hk : n.is e.key with
    | true => simp [hk]
    | false => simp [hk, findQ_none n l (i + 1)]
theorem beq_self_bytes (a : ByteArray) : (a == a) = true := (MapKept.bytes_beq a a).2 rfl
theorem sameBits_Q (k : KeyQ) : Instr.sameBits 10000 k.val k.val = true := by
  rw [show (10000 : Nat) = 9999 + 1 from rfl]
  cases k with
  | txt s => simp [KeyQ.val, Instr.sameBits, beq_self_bytes]
  | two a b => simp [KeyQ.val, Instr.sameBits, beq_self_bytes]
section
variable {G : Ctx} {st : St} {E : Env} {a : Act}
theorem run_mapUpdate_int {P : Program} {t kt et : TypeId} (hm : P.underlying t = some (.map kt et)) (hk : P.underlying kt = some (.int .i64)) {w : World} {r clk : Nat} {es : Array MapEntry} (hb : w.heap[r]? = some (.map es clk)) (hi : intM es = true) (n : Int) (v : Value) :
    (Instr.mapUpdate t (.map (some r)) (.int .i64 n) v).run P w = .ok () (w.putObj r (.map (mput es clk n v).1 (mput es clk n v).2)) := by
  unfold mput
  cases hf : findI n es.toList 0 with
  | none => simp [Instr.mapUpdate, run_underlying hm, MapKept.run_getObj_map hb, run_checkKey_int hk, run_findKey_int hk hi, hf, MapKept.run_setObj_map _ hb, World.putObj]
  | some x =>
    obtain ⟨j, e, rfl, h1, h2, _⟩ := findI_some n _ _ _ hf
    have he : (((es[0 + j]?).map (·.key)).getD (.int .i64 n)) = .int .i64 n := by
      have : es[0 + j]? = some e := by rw [Nat.zero_add, ← Array.getElem?_toList]; exact h1
      rw [this]; exact keyIs_key h2
    simp only [Nat.zero_add] at he
    simp [Instr.mapUpdate, run_underlying hm, MapKept.run_getObj_map hb, run_checkKey_int hk, run_findKey_int hk hi, hf, he, MapKept.run_keyThatStays (d := .int .i64) (k := .int .i64 n) (by trivial), MapKept.run_setObj_map _ hb, World.putObj]

theorem run_mapUpdate_Q {P : Program} {t kt et : TypeId} (hm : P.underlying t = some (.map kt et)) {k : KeyQ} (hk : k.okT P kt = true) {w : World} {r clk : Nat} {es : Array MapEntry} (hb : w.heap[r]? = some (.map es clk)) (hi : qM es k = true) (v : Value) :
    (Instr.mapUpdate t (.map (some r)) k.val v).run P w = .ok () (w.putObj r (.map (qput es clk k v).1 (qput es clk k v).2)) := by
  unfold qput
  cases hf : findQ k es.toList 0 with
  | none => simp [Instr.mapUpdate, run_underlying hm, MapKept.run_getObj_map hb, run_checkKey_Q hk, run_findKey_Q hk hi, hf, MapKept.run_setObj_map _ hb, World.putObj]
  | some x =>
    obtain ⟨j, e, rfl, h1, h2, _⟩ := findQ_some k _ _ _ hf
    have he : (((es[0 + j]?).map (·.key)).getD k.val) = k.val := by
      have : es[0 + j]? = some e := by rw [Nat.zero_add, ← Array.getElem?_toList]; exact h1
      rw [this]; exact is_key h2
    simp only [Nat.zero_add] at he
    have hst : (Instr.keyThatStays k.val k.val).run P w = .ok k.val w := by simp [Instr.keyThatStays, sameBits_Q]
    simp [Instr.mapUpdate, run_underlying hm, MapKept.run_getObj_map hb, run_checkKey_Q hk, run_findKey_Q hk hi, hf, he, hst, MapKept.run_setObj_map _ hb, World.putObj]

def St.setMap (st : St) (id : Nat) (es : Array MapEntry) (clk : Nat) : St := { st with ver := upd st.ver id (st.ver id + 1), h := upd st.h id (.map es clk) }

/-- A new map of the walk's own. -/
theorem Rel.mapOwn (hr : Rel G st E a) (id : Nat) :
    ∃ E', E'.w = E.w.alloc (.map #[] 0) ∧ Rel G (st.setMap id #[] 0) E' a ∧ VR E' (.ref id (st.ver id + 1)) (.map (some E.w.heap.size)) := by
  refine ⟨{ ver := upd E.ver id (st.ver id + 1), own := upd E.own id ⟨.map (some E.w.heap.size), E.w.heap.size, 0⟩, S := E.S, w := E.w.alloc (.map #[] 0) }, rfl, ?_, ?_⟩
  · have hve : E.ver id = st.ver id := by rw [hr.ver]
    refine hr.own id (.map #[] 0) ⟨.map (some E.w.heap.size), E.w.heap.size, 0⟩ (st.ver id + 1) rfl (by omega) rfl (fun h => by omega) rfl (hr.below.alloc hr.below.size _) (by simp) (fun b hb _ => heap_alloc_lt _ _ b hb) ?_ ?_
    · exact ⟨heap_alloc_new _ _, rfl, hr.below.size, fun h => absurd (hr.Slt _ h) (by simp)⟩
    · intro b hb; simp only [Blk.at, Option.some.injEq] at hb; subst hb; exact .inr (Nat.le_refl _)
  · exact .ref _ _ _ (by simp [upd]) fun _ => by simp [upd]
/-- The entries of an own map turn. -/
theorem Rel.mapSet (hr : Rel G st E a) {id clk : Nat} {es : Array MapEntry} (hh : st.h id = .map es clk) (es' : Array MapEntry) (clk' : Nat) : Rel G { st with h := upd st.h id (.map es' clk') } { E with w := E.w.putObj (E.own id).blk (.map es' clk') } a := by
  have hb := hr.blocks id
  rw [hh] at hb
  obtain ⟨h1, h4, h2, h3⟩ := hb
  have hlt := (Array.getElem?_eq_some_iff.1 h1).1
  have hr' := hr.own (E' := { E with w := E.w.putObj (E.own id).blk (.map es' clk') }) id (.map es' clk') (E.own id) (E.ver id) (by funext j; by_cases h : j = id <;> simp [upd, h]) (Nat.le_refl _) (by funext j; by_cases h : j = id <;> simp [upd, h]) (fun _ => rfl) rfl
    (below_putObj hr.below h2 _) (by rw [World.putObj_size]; exact Nat.le_refl _) (fun b hb hne => World.putObj_heap_other (fun he => hne (by rw [hh, he]; rfl))) ⟨World.putObj_heap_same hlt, h4, h2, h3⟩ (fun b hb => .inl (by rw [hh]; exact hb))
  have he : upd st.ver id (E.ver id) = st.ver := by funext j; by_cases h : j = id <;> simp [upd, h, hr.ver]
  rw [he] at hr'
  exact hr'
end
end Go.Abs
