/- The proof layer: maps whose keys are texts, or two texts. No condition. -/
import Derived.Test.YtckoolpjphhfdaaFx
namespace Go.Abs
open Go Go.RowKit
set_option linter.unusedSimpArgs false
set_option linter.unusedVariables false
theorem bytes_beq_self (a : ByteArray) : (a.toList == a.toList) = true := by simp
theorem is_self (k : KeyQ) : k.is k.val = true := by
  cases k with
  | txt s => exact bytes_beq_self s
  | two a b => show ((a.toList == a.toList) && (b.toList == b.toList)) = true; simp
theorem val_inj {k k' : KeyQ} (h : k.val = k'.val) : k = k' := by
  cases k <;> cases k' <;> simp [KeyQ.val] at h
  · rw [h]
  · rw [h.1, h.2]
theorem is_iff (k k' : KeyQ) : k.is k'.val = true ↔ k' = k := ⟨fun h => val_inj (is_key h), fun h => by rw [h]; exact is_self k⟩
theorem qget_eq (es : Array MapEntry) (k : KeyQ) : qget es k = (es.toList.find? fun e => k.is e.key).map (·.val) := by
  unfold qget
  have : ∀ (l : List MapEntry) (i : Nat), (findQ k l i).map (·.2) = (l.find? fun e => k.is e.key).map (·.val) := by
    intro l
    induction l with
    | nil => intro i; rfl
    | cons e l ih =>
      intro i
      unfold findQ
      rw [List.find?_cons]
      cases hk : k.is e.key with
      | true => rfl
      | false => simpa using ih (i + 1)
  exact this _ _
theorem qput_list (es : Array MapEntry) (clk : Nat) (k : KeyQ) (v : Value) :
    (∃ j e, es.toList[j]? = some e ∧ e.key = k.val ∧ (∀ i e', i < j → es.toList[i]? = some e' → k.is e'.key = false) ∧ (qput es clk k v).1.toList = es.toList.set j { e with key := k.val, val := v } ∧ (qput es clk k v).2 = clk) ∨
    ((∀ e ∈ es.toList, k.is e.key = false) ∧ (qput es clk k v).1.toList = es.toList ++ [{ key := k.val, val := v, born := clk }] ∧ (qput es clk k v).2 = clk + 1) := by
  unfold qput
  cases hf : findQ k es.toList 0 with
  | some x =>
    obtain ⟨j, e, rfl, h1, h2, h3⟩ := findQ_some k _ _ _ hf
    refine .inl ⟨j, e, h1, is_key h2, h3, ?_, rfl⟩
    show (es.modify (0 + j) fun e => { e with key := k.val, val := v }).toList = _
    rw [modify_toList, Nat.zero_add]
    apply List.ext_getElem?
    intro i
    rw [List.getElem?_modify, List.getElem?_set]
    by_cases hi : j = i
    · subst hi
      rw [if_pos rfl]
      have hj : j < es.toList.length := (List.getElem?_eq_some_iff.1 h1).1
      rw [h1]
      simp only [if_pos hj, Option.map_some]
      rfl
    · simp [hi]
  | none =>
    have hno := (findQ_none k _ 0).1 hf
    exact .inr ⟨hno, by show (es.push _).toList = _; rw [Array.toList_push], rfl⟩
theorem qput_same (es : Array MapEntry) (clk : Nat) (k : KeyQ) (v : Value) : qget (qput es clk k v).1 k = some v := by
  rw [qget_eq]
  rcases qput_list es clk k v with ⟨j, e, h1, h2, h3, h4, _⟩ | ⟨h1, h2, _⟩
  · rw [h4]
    have hj : j < es.toList.length := (List.getElem?_eq_some_iff.1 h1).1
    have : (es.toList.set j { e with key := k.val, val := v }).find? (fun e => k.is e.key) = some { e with key := k.val, val := v } := by
      rw [List.find?_eq_some_iff_getElem]
      refine ⟨is_self k, j, by rw [List.length_set]; exact hj, by rw [List.getElem_set_self], fun i hi => ?_⟩
      rw [List.getElem_set_ne (by omega)]
      have := h3 i _ hi (List.getElem?_eq_getElem (by omega))
      rw [this]; rfl
    rw [this]; rfl
  · rw [h2, List.find?_append, List.find?_eq_none.2 (fun x hx => by rw [h1 x hx]; simp)]
    simp [is_self]
theorem qput_other (es : Array MapEntry) (clk : Nat) {k k' : KeyQ} (v : Value) (hne : k' ≠ k) : qget (qput es clk k v).1 k' = qget es k' := by
  have hk : k'.is k.val = false := by
    cases h : k'.is k.val with
    | false => rfl
    | true => exact absurd ((is_iff _ _).1 h).symm hne
  rw [qget_eq, qget_eq]
  rcases qput_list es clk k v with ⟨j, e, h1, h2, h3, h4, _⟩ | ⟨h1, h2, _⟩
  · rw [h4]
    have he : k'.is e.key = false := by rw [h2]; exact hk
    have : ∀ (l : List MapEntry) (j : Nat), l[j]? = some e → (l.set j { e with key := k.val, val := v }).find? (fun e => k'.is e.key) = l.find? (fun e => k'.is e.key) := by
      intro l
      induction l with
      | nil => intro j h; simp at h
      | cons x l ih =>
        intro j h
        cases j with
        | zero => simp at h; subst h; simp [List.find?_cons, hk, he]
        | succ j => simp only [List.set_cons_succ, List.find?_cons]; rw [ih j (by simpa using h)]
    rw [this _ _ h1]
  · rw [h2, List.find?_append]
    simp [hk]
/-- Every key is a text. -/
def txM (es : Array MapEntry) : Prop := ∀ e ∈ es.toList, ∃ s, e.key = .string s
def twM (es : Array MapEntry) : Prop := ∀ e ∈ es.toList, ∃ a b, e.key = .agg #[.string a, .string b]
theorem txM_nil : txM #[] := fun e he => by simp at he
theorem twM_nil : twM #[] := fun e he => by simp at he
theorem txM_qM {es : Array MapEntry} (h : txM es) (s : ByteArray) : qM es (.txt s) = true := by
  unfold qM
  rw [List.all_eq_true]
  intro e he
  obtain ⟨x, hx⟩ := h e he
  rw [hx]; rfl
theorem twM_qM {es : Array MapEntry} (h : twM es) (a b : ByteArray) : qM es (.two a b) = true := by
  unfold qM
  rw [List.all_eq_true]
  intro e he
  obtain ⟨x, y, hx⟩ := h e he
  rw [hx]; rfl
theorem mem_qput {es : Array MapEntry} {clk : Nat} {k : KeyQ} {v : Value} {e : MapEntry} (h : e ∈ (qput es clk k v).1.toList) : e ∈ es.toList ∨ (e.key = k.val ∧ e.val = v) := by
  rcases qput_list es clk k v with ⟨j, x, h1, h2, h3, h4, _⟩ | ⟨h1, h2, _⟩
  · rw [h4] at h
    rcases List.mem_or_eq_of_mem_set h with h | rfl
    · exact .inl h
    · exact .inr ⟨rfl, rfl⟩
  · rw [h2] at h
    rcases List.mem_append.1 h with h | h
    · exact .inl h
    · rw [List.mem_singleton] at h; subst h; exact .inr ⟨rfl, rfl⟩
theorem txM_qput {es : Array MapEntry} (h : txM es) (clk : Nat) (s : ByteArray) (v : Value) : txM (qput es clk (.txt s) v).1 := fun e he => (mem_qput he).elim (h e) fun h => ⟨s, h.1⟩
theorem twM_qput {es : Array MapEntry} (h : twM es) (clk : Nat) (a b : ByteArray) (v : Value) : twM (qput es clk (.two a b) v).1 := fun e he => (mem_qput he).elim (h e) fun h => ⟨a, b, h.1⟩
/-- No key stands twice. -/
def keysNd (es : Array MapEntry) : Prop := (es.toList.map (·.key)).Nodup
theorem keysNd_nil : keysNd #[] := List.nodup_nil
theorem map_set_same {α : Type} (g : MapEntry → α) : ∀ (l : List MapEntry) (j : Nat) (e x : MapEntry), l[j]? = some e → g x = g e → (l.set j x).map g = l.map g
  | [], j, e, x, h, _ => by simp at h
  | y :: l, 0, e, x, h, hg => by simp at h; subst h; simp [hg]
  | y :: l, j + 1, e, x, h, hg => by simp only [List.set_cons_succ, List.map_cons]; rw [map_set_same g l j e x (by simpa using h) hg]
theorem keysNd_qput {es : Array MapEntry} (h : keysNd es) (clk : Nat) (k : KeyQ) (v : Value) : keysNd (qput es clk k v).1 := by
  unfold keysNd
  rcases qput_list es clk k v with ⟨j, x, h1, h2, h3, h4, _⟩ | ⟨h1, h2, _⟩
  · rw [h4, map_set_same (·.key) _ _ x _ h1 h2.symm]; exact h
  · rw [h2, List.map_append, List.nodup_append]
    refine ⟨h, by simp, fun a ha b hb => ?_⟩
    simp only [List.map_cons, List.map_nil, List.mem_singleton] at hb
    obtain ⟨z, hz, rfl⟩ := List.mem_map.1 ha
    have := h1 z hz
    intro he
    rw [he, hb, is_self] at this; cases this
theorem mapOK_qput {es : Array MapEntry} {clk : Nat} (h : mapOK es clk) (k : KeyQ) (v : Value) : mapOK (qput es clk k v).1 (qput es clk k v).2 := by
  rcases qput_list es clk k v with ⟨j, x, h1, h2, h3, h4, h5⟩ | ⟨h1, h2, h3⟩
  · have hb : (qput es clk k v).1.toList.map (·.born) = es.toList.map (·.born) := by rw [h4]; exact map_set_same (·.born) _ _ _ _ h1 rfl
    rw [h5]
    refine ⟨fun y hy => ?_, by rw [hb]; exact h.2⟩
    have : y.born ∈ es.toList.map (·.born) := by rw [← hb]; exact List.mem_map.2 ⟨y, hy, rfl⟩
    obtain ⟨z, hz, hzb⟩ := List.mem_map.1 this
    have := h.1 z hz
    omega
  · rw [h3]
    refine ⟨fun y hy => ?_, ?_⟩
    · rw [h2] at hy
      rcases List.mem_append.1 hy with hy | hy
      · have := h.1 y hy; omega
      · rw [List.mem_singleton] at hy; subst hy; exact Nat.lt_succ_self _
    · rw [h2, List.map_append, List.nodup_append]
      refine ⟨h.2, by simp, fun a ha b hb => ?_⟩
      simp only [List.map_cons, List.map_nil, List.mem_singleton] at hb
      obtain ⟨z, hz, rfl⟩ := List.mem_map.1 ha
      have := h.1 z hz
      omega
theorem qget_of {es : Array MapEntry} (hk : keysNd es) {e : MapEntry} {k : KeyQ} (he : e ∈ es.toList) (hek : e.key = k.val) : qget es k = some e.val := by
  rw [qget_eq]
  cases hf : es.toList.find? (fun e => k.is e.key) with
  | none =>
    rw [List.find?_eq_none] at hf
    exact absurd (show k.is e.key = true by rw [hek]; exact is_self k) (by simpa using hf e he)
  | some x =>
    have hx := List.mem_of_find?_eq_some hf
    have hxk : x.key = k.val := is_key (by simpa using List.find?_some hf)
    have : x = e := by
      obtain ⟨i, hi', rfl⟩ := List.mem_iff_getElem.1 hx
      obtain ⟨j, hj, rfl⟩ := List.mem_iff_getElem.1 he
      have h1 : (es.toList.map (·.key))[i]'(by simpa using hi') = (es.toList.map (·.key))[j]'(by simpa using hj) := by simpa using hxk.trans hek.symm
      have := (List.getElem_inj hk).1 h1
      subst this; rfl
    subst this; rfl
theorem qget_mem {es : Array MapEntry} {k : KeyQ} {v : Value} (h : qget es k = some v) : ∃ e ∈ es.toList, e.key = k.val ∧ e.val = v := by
  rw [qget_eq] at h
  cases hf : es.toList.find? (fun e => k.is e.key) with
  | none => rw [hf] at h; cases h
  | some x =>
    rw [hf] at h
    exact ⟨x, List.mem_of_find?_eq_some hf, is_key (by simpa using List.find?_some hf), by simpa using h⟩
theorem Seen.keysQ {es : Array MapEntry} {done : List MapEntry} (h : Seen es done) (hk : keysNd es) : (done.map (·.key)).Nodup := by
  have hb := h.nd
  unfold List.Nodup at hb ⊢
  rw [List.pairwise_map] at hb ⊢
  refine List.Pairwise.imp_of_mem (fun {a b} ha hb' hab he => hab ?_) hb
  obtain ⟨i, hi', rfl⟩ := List.mem_iff_getElem.1 (h.mem a ha)
  obtain ⟨j, hj, rfl⟩ := List.mem_iff_getElem.1 (h.mem b hb')
  have h1 : (es.toList.map (·.key))[i]'(by simpa using hi') = (es.toList.map (·.key))[j]'(by simpa using hj) := by simpa using he
  have := (List.getElem_inj hk).1 h1
  subst this; rfl
end Go.Abs
