/- The proof layer: maps of numbers that are ranged over. No condition. -/
import Derived.Test.YtckoolpjphhfdaaFv
namespace Go.Abs
open Go Go.RowKit
theorem nodup_lenG {α : Type} [BEq α] [LawfulBEq α] : ∀ {a b : List α}, a.Nodup → (∀ x ∈ a, x ∈ b) → a.length ≤ b.length
  | [], b, _, _ => Nat.zero_le _
  | x :: a, b, h, hs => by
    rw [List.nodup_cons] at h
    have hx := hs x (List.mem_cons_self ..)
    have ih := nodup_lenG (a := a) (b := b.erase x) h.2 fun y hy => (List.mem_erase_of_ne fun he => h.1 (by rw [← he]; exact hy)).2 (hs y (List.mem_cons_of_mem _ hy))
    rw [List.length_erase_of_mem hx] at ih
    have : 0 < b.length := List.length_pos_of_mem hx
    simp only [List.length_cons]; omega
theorem mapOK_nil : mapOK #[] 0 := ⟨fun x h => by simp at h, List.nodup_nil⟩
theorem modify_toList (es : Array MapEntry) (j : Nat) (f : MapEntry → MapEntry) : (es.modify j f).toList = es.toList.modify j f := Array.toList_modify ..
theorem map_modify_same {α : Type} (g : MapEntry → α) (f : MapEntry → MapEntry) : ∀ (l : List MapEntry) (j : Nat), (∀ e, l[j]? = some e → g (f e) = g e) → (l.modify j f).map g = l.map g
  | [], j, _ => by cases j <;> simp
  | e :: l, 0, h => by simp [h e rfl]
  | e :: l, j + 1, h => by simp [map_modify_same g f l j (fun x hx => h x (by simpa using hx))]
theorem mapOK_mput {es : Array MapEntry} {clk : Nat} (h : mapOK es clk) (n : Int) (v : Value) : mapOK (mput es clk n v).1 (mput es clk n v).2 := by
  unfold mput
  cases hf : findI n es.toList 0 with
  | some x =>
    have hb : (es.modify x.1 fun e => { e with key := .int .i64 n, val := v }).toList.map (·.born) = es.toList.map (·.born) := by
      rw [modify_toList]
      exact map_modify_same (·.born) _ _ _ fun e _ => rfl
    refine ⟨fun y hy => ?_, by rw [hb]; exact h.2⟩
    have : y.born ∈ es.toList.map (·.born) := by rw [← hb]; exact List.mem_map.2 ⟨y, hy, rfl⟩
    obtain ⟨z, hz, hzb⟩ := List.mem_map.1 this
    have := h.1 z hz
    show y.born < clk
    omega
  | none =>
    refine ⟨fun y hy => ?_, ?_⟩
    · simp only [Array.toList_push, List.mem_append, List.mem_singleton] at hy
      rcases hy with hy | rfl
      · have := h.1 y hy; show y.born < clk + 1; omega
      · exact Nat.lt_succ_self _
    · simp only [Array.toList_push, List.map_append, List.map_cons, List.map_nil]
      rw [List.nodup_append]
      refine ⟨h.2, by simp, fun a ha b hb => ?_⟩
      simp only [List.mem_singleton] at hb
      obtain ⟨z, hz, rfl⟩ := List.mem_map.1 ha
      have := h.1 z hz
      omega
/-- No number is a key twice. -/
def keysOK (es : Array MapEntry) : Prop := (es.toList.map keyI).Nodup
theorem keysOK_nil : keysOK #[] := List.nodup_nil
theorem keyInt_key {e : MapEntry} (h : keyInt e = true) : e.key = .int .i64 (keyI e) := by
  unfold keyInt at h
  split at h
  · rename_i a ha; unfold keyI; rw [ha]
  · cases h
theorem keyIs_iff {n : Int} {e : MapEntry} (h : keyInt e = true) : keyIs n e = true ↔ keyI e = n := by
  unfold keyIs
  rw [keyInt_key h]
  simp only [beq_iff_eq]
  exact eq_comm
theorem keysOK_mput {es : Array MapEntry} {clk : Nat} (hi : intM es = true) (h : keysOK es) (n : Int) (v : Value) : keysOK (mput es clk n v).1 := by
  unfold mput
  unfold intM at hi
  rw [List.all_eq_true] at hi
  cases hf : findI n es.toList 0 with
  | some x =>
    obtain ⟨j, e, rfl, h1, h2, h3⟩ := findI_some n _ _ _ hf
    unfold keysOK
    show ((es.modify (0 + j) fun e => { e with key := .int .i64 n, val := v }).toList.map keyI).Nodup
    rw [modify_toList, map_modify_same keyI _ _ _ fun e' he' => ?_]
    · exact h
    · rw [Nat.zero_add, h1] at he'
      cases he'
      have := (keyIs_iff (hi e (List.mem_of_getElem? h1))).1 h2
      simp [keyI] at this ⊢
      exact this.symm
  | none =>
    have hno := (findI_none n _ 0).1 hf
    unfold keysOK
    simp only [Array.toList_push, List.map_append, List.map_cons, List.map_nil]
    rw [List.nodup_append]
    refine ⟨h, by simp, fun a ha b hb => ?_⟩
    simp only [List.mem_singleton] at hb
    obtain ⟨z, hz, rfl⟩ := List.mem_map.1 ha
    have h1 := hno z hz
    intro he
    rw [hb] at he
    have := (keyIs_iff (hi z hz)).2 (show keyI z = n from by simpa [keyI] using he)
    rw [this] at h1; cases h1
theorem mget_of {es : Array MapEntry} (hi : intM es = true) (hk : keysOK es) {e : MapEntry} (he : e ∈ es.toList) : mget es (keyI e) = some e.val := by
  unfold intM at hi
  rw [List.all_eq_true] at hi
  rw [mget_eq]
  have hp : keyIs (keyI e) e = true := (keyIs_iff (hi e he)).2 rfl
  cases hf : es.toList.find? (keyIs (keyI e)) with
  | none =>
    rw [List.find?_eq_none] at hf
    exact absurd hp (hf e he)
  | some x =>
    have hx := List.mem_of_find?_eq_some hf
    have hxk := (keyIs_iff (hi x hx)).1 (List.find?_some hf)
    have : x = e := by
      obtain ⟨i, hi', rfl⟩ := List.mem_iff_getElem.1 hx
      obtain ⟨j, hj, rfl⟩ := List.mem_iff_getElem.1 he
      have h1 : (es.toList.map keyI)[i]'(by simpa using hi') = (es.toList.map keyI)[j]'(by simpa using hj) := by simpa using hxk
      have := (List.getElem_inj hk).1 h1
      subst this; rfl
    subst this; rfl
theorem mget_mem {es : Array MapEntry} (hi : intM es = true) {n : Int} {v : Value} (h : mget es n = some v) : ∃ e ∈ es.toList, keyI e = n ∧ e.val = v := by
  unfold intM at hi
  rw [List.all_eq_true] at hi
  rw [mget_eq] at h
  cases hf : es.toList.find? (keyIs n) with
  | none => rw [hf] at h; cases h
  | some x =>
    rw [hf] at h
    have hx := List.mem_of_find?_eq_some hf
    exact ⟨x, hx, (keyIs_iff (hi x hx)).1 (List.find?_some hf), by simpa using h⟩
theorem intM_key {es : Array MapEntry} (hi : intM es = true) {e : MapEntry} (he : e ∈ es.toList) : e.key = .int .i64 (keyI e) := by
  unfold intM at hi
  rw [List.all_eq_true] at hi
  exact keyInt_key (hi e he)
/-- What a range over a map has seen: each entry once. -/
structure Seen (es : Array MapEntry) (done : List MapEntry) : Prop where
  nd : (done.map (·.born)).Nodup
  mem : ∀ x ∈ done, x ∈ es.toList
theorem Seen.nil (es : Array MapEntry) : Seen es [] := ⟨List.nodup_nil, fun _ h => by cases h⟩
theorem Seen.snoc {es : Array MapEntry} {done : List MapEntry} (h : Seen es done) {e : MapEntry} (he : e ∈ es.toList) (hn : e.born ∉ done.map (·.born)) : Seen es (done ++ [e]) := by
  refine ⟨?_, fun x hx => ?_⟩
  · rw [List.map_append, List.nodup_append]
    refine ⟨h.nd, by simp, fun a ha b hb => ?_⟩
    simp only [List.map_cons, List.map_nil, List.mem_singleton] at hb
    subst hb; exact fun he => hn (he ▸ ha)
  · rcases List.mem_append.1 hx with hx | hx
    · exact h.mem x hx
    · simp only [List.mem_singleton] at hx; subst hx; exact he
theorem Seen.len {es : Array MapEntry} {done : List MapEntry} (h : Seen es done) : done.length ≤ es.size := by
  have := nodup_lenG h.nd (b := es.toList.map (·.born)) fun b hb => by
    obtain ⟨x, hx, rfl⟩ := List.mem_map.1 hb
    exact List.mem_map.2 ⟨x, h.mem x hx, rfl⟩
  simpa using this
theorem Seen.all {es : Array MapEntry} {clk : Nat} {done : List MapEntry} (hok : mapOK es clk) (h : Seen es done) (hall : ∀ e ∈ es.toList, e.born ∈ done.map (·.born)) : ∀ e, e ∈ done ↔ e ∈ es.toList := fun e => by
  refine ⟨h.mem e, fun he => ?_⟩
  obtain ⟨x, hx, hxb⟩ := List.mem_map.1 (hall e he)
  have hxe := h.mem x hx
  have : x = e := by
    obtain ⟨i, hi', rfl⟩ := List.mem_iff_getElem.1 hxe
    obtain ⟨j, hj, rfl⟩ := List.mem_iff_getElem.1 he
    have h1 : (es.toList.map (·.born))[i]'(by simpa using hi') = (es.toList.map (·.born))[j]'(by simpa using hj) := by simpa using hxb
    have := (List.getElem_inj hok.2).1 h1
    subst this; rfl
  subst this; exact hx
theorem Seen.keys {es : Array MapEntry} {done : List MapEntry} (h : Seen es done) (hk : keysOK es) : (done.map keyI).Nodup := by
  have hb := h.nd
  unfold List.Nodup at hb ⊢
  rw [List.pairwise_map] at hb ⊢
  refine List.Pairwise.imp_of_mem (fun {a b} ha hb' hab he => hab ?_) hb
  obtain ⟨i, hi', rfl⟩ := List.mem_iff_getElem.1 (h.mem a ha)
  obtain ⟨j, hj, rfl⟩ := List.mem_iff_getElem.1 (h.mem b hb')
  have h1 : (es.toList.map keyI)[i]'(by simpa using hi') = (es.toList.map keyI)[j]'(by simpa using hj) := by simpa using he
  have := (List.getElem_inj hk).1 h1
  subst this; rfl
end Go.Abs
