/- The proof layer, part 5: literals, appends and stores, as steps between abstract states. No condition. -/
import Derived.Test.YtckoolpjphhfdaaFd
namespace Go.Abs
open Go Go.RowKit

def tPlaces (P : Program) (t : TypeId) : Option (List (Nat × Nat)) :=
  match P.underlying t with
  | some (.struct fs) => fs.toList.mapM fun f => (P.info? f.type).map fun i => (f.offset, i.size)
  | _ => none

def evParts (st : St) (parts : Array (Nat × Operand)) : List (Nat × AV) := parts.toList.map fun x => (x.1, st.ev x.2)

def valCells (z : Value) : List AV := z.cells.toList.map .v

def buildAV (P : Program) (st : St) (t : TypeId) (parts : Array (Nat × Operand)) : Option AV :=
  if (evParts st parts).all fun x => okCells st x.2 then
    match tZero P t with
    | none => none
    | some z => match tPlaces P t with
      | some pl => (fillL (fun i => pl[i]?) (valCells z) (evParts st parts)).map .agg
      | none => match tArr P t with
        | some (_, m) => (fillL (fun i => some (i * m, m)) (valCells z) (evParts st parts)).map .agg
        | none => none
  else none

section
variable {G : Ctx} {st : St} {E : Env} {a : Act}

theorem valCells_vrs (E : Env) (z : Value) : VRs E (valCells z) z.cells.toList := by
  refine ⟨by simp [valCells], fun i c u hc hu => ?_⟩
  simp only [valCells, List.getElem?_map, hu, Option.map_some, Option.some.injEq] at hc
  subst hc; exact .v u

theorem evParts_rel (hr : Rel G st E a) {parts : Array (Nat × Operand)} (h : ((evParts st parts).all fun x => okCells st x.2) = true) (i : Nat) (p : Nat × AV) (x : Nat × Value)
    (hp : (evParts st parts)[i]? = some p) (hx : (parts.map fun (i, x) => (i, a.eval x)).toList[i]? = some x) : p.1 = x.1 ∧ VRs E p.2.cells x.2.cells.toList ∧ ∀ u ∈ x.2.cells.toList, u.oneCell' = true := by
  have hok := List.all_eq_true.1 h p (List.mem_of_getElem? hp)
  simp only [evParts, List.getElem?_map, Option.map_eq_some_iff] at hp
  obtain ⟨q, hq, rfl⟩ := hp
  simp only [Array.toList_map, List.getElem?_map, hq, Option.map_some, Option.some.injEq] at hx
  subst hx
  have := okCells_spec hr (hr.ev q.2) hok
  exact ⟨rfl, this.1, this.2⟩

theorem buildAV_sound (hr : Rel G st E a) {t : TypeId} {parts : Array (Nat × Operand)} {r : AV} (h : buildAV G.P st t parts = some r) :
    ∃ z, (Instr.build t (parts.map fun (i, x) => (i, a.eval x))).run G.P E.w = .ok z E.w ∧ VR E r z := by
  unfold buildAV at h
  split at h
  case isFalse => cases h
  rename_i hok
  split at h
  · cases h
  · rename_i z hz
    have hlen : (evParts st parts).length = (parts.map fun (i, x) => (i, a.eval x)).toList.length := by simp [evParts]
    have hrel : ∀ (i : Nat) p x, (evParts st parts)[i]? = some p → (parts.map fun (i, x) => (i, a.eval x)).toList[i]? = some x → p.1 = x.1 ∧ VRs E p.2.cells x.2.cells.toList := fun i p x hp hx =>
      let h := evParts_rel hr hok i p x hp hx; ⟨h.1, h.2.1⟩
    have fin : ∀ (place : Nat → Option (Nat × Nat)), (fillL place (valCells z) (evParts st parts)).map AV.agg = some r →
        (∀ us, Instr.fill place z.cells (parts.map fun (i, x) => (i, a.eval x)).toList = some us → G.P.built t (parts.map fun (i, x) => (i, a.eval x)).toList = some us) →
        ∃ z', (Instr.build t (parts.map fun (i, x) => (i, a.eval x))).run G.P E.w = .ok z' E.w ∧ VR E r z' := by
      intro place hm hb
      obtain ⟨out, ho, rfl⟩ := Option.map_eq_some_iff.1 hm
      obtain ⟨vs, h1, h2⟩ := fillL_sound (E := E) _ _ _ z.cells _ (valCells_vrs E z) hlen hrel ho
      refine ⟨.agg vs, run_build _ _ _ _ (hb _ h1), .agg _ _ (by simpa using h2.1) fun i c hc => ?_⟩
      have hi : i < vs.size := by have := h2.1; simp at this; rw [← this]; exact (List.getElem?_eq_some_iff.1 hc).1
      exact h2.2 i c _ hc (by simp [Array.getD_eq_getD_getElem?, hi])
    unfold tZero at hz
    cases hit : G.P.info? t with
    | none => simp [hit] at hz
    | some it =>
      have hz' : it.zero = some z := by simpa [hit] using hz
      split at h
      · rename_i pl hpl
        unfold tPlaces at hpl
        split at hpl
        · rename_i fs hu
          refine fin _ h fun us hus => ?_
          unfold Program.built
          simp only [hit, hu, hz', hpl]
          have : (fun (i : Nat) => pl.toArray[i]?) = fun (i : Nat) => pl[i]? := by funext i; simp
          rw [this]; exact hus
        · cases hpl
      · split at h
        · rename_i n m hm
          unfold tArr at hm
          split at hm
          · rename_i n' e hu
            obtain ⟨m', hm', hmm⟩ := Option.map_eq_some_iff.1 hm
            simp only [Prod.mk.injEq] at hmm
            obtain ⟨_, rfl⟩ := hmm
            unfold tSize at hm'
            cases hie : G.P.info? e with
            | none => simp [hie] at hm'
            | some ie =>
              have hsz : ie.size = m' := by simpa [hie] using hm'
              refine fin _ h fun us hus => ?_
              unfold Program.built
              simp only [hit, hu, hz', hie, hsz]
              exact hus
          · cases hm
        · cases h

/-! ### Slice literals, every element written in order -/

def litAV (P : Program) (st : St) (t : TypeId) (len : Nat) (parts : Array (Nat × Operand)) : Option (Nat × Nat × List AV) :=
  match tElem P t with
  | none => none
  | some e => match tSize P e with
    | none => none
    | some sz =>
      if (parts.toList.map (·.1)) = List.range len ∧ ((evParts st parts).all fun x => okCells st x.2 && x.2.cells.length == sz) = true ∧ (len * sz ≤ 16777216 ∧ len ≤ 16777216) ∧ (tZero P e).map (·.cells.size) = some sz then
        some (e, sz, (evParts st parts).map (·.2))
      else none

theorem fill_lit {sz : Nat} : ∀ (vals : List (Nat × Value)) (n : Nat) (pre post : List Value), pre.length = n * sz → post.length = vals.length * sz → (vals.map (·.1)) = List.range' n vals.length → (∀ v ∈ vals, v.2.cells.size = sz) →
    Instr.fill (fun i => some (i * sz, sz)) (pre ++ post).toArray vals = some (pre ++ vals.flatMap fun v => v.2.cells.toList).toArray
  | [], n, pre, post, h1, h2, _, _ => by
    have : post = [] := List.eq_nil_of_length_eq_zero (by simpa using h2)
    simp [Instr.fill, this]
  | (i, v) :: vals, n, pre, post, h1, h2, h3, h4 => by
    simp only [List.map_cons, List.length_cons, List.range'_succ, List.cons.injEq] at h3
    obtain ⟨rfl, h3⟩ := h3
    have hv := h4 (i, v) (by simp)
    simp only at hv
    simp only [List.length_cons, Nat.succ_mul] at h2
    have hcond : (decide (v.cells.size ≠ sz) || decide (i * sz + v.cells.size > (pre ++ post).toArray.size)) = false := by
      simp [hv, h1]; omega
    have hfold : v.cells.zipIdx.foldl (fun cs (y : Value × Nat) => cs.setIfInBounds (i * sz + y.2) y.1) (pre ++ post).toArray = ((pre ++ v.cells.toList) ++ post.drop sz).toArray := by
      rw [← Array.toList_inj, ← Array.foldl_toList, Array.toList_zipIdx]
      have := fill_fold (i * sz) v.cells.toList 0 (pre ++ post).toArray (by simp [hv, h1]; omega)
      rw [Nat.add_zero] at this
      rw [this]
      have e1 : (pre ++ post).take (i * sz) = pre := by rw [List.take_append_of_le_length (by omega), List.take_of_length_le (by omega)]
      have e2 : (pre ++ post).drop (i * sz + v.cells.toList.length) = post.drop sz := by
        rw [List.drop_append, List.drop_eq_nil_of_le (by omega), List.nil_append]; congr 1; simp [hv]; omega
      simp only [spliceL, e1, e2]
    simp only [Instr.fill]
    rw [if_neg (by simpa using hcond), hfold, fill_lit vals (i + 1) (pre ++ v.cells.toList) (post.drop sz) (by simp [hv, h1, Nat.succ_mul]) (by simp; omega) h3 (fun w hw => h4 w (by simp [hw]))]
    simp [List.append_assoc]

theorem run_lit (hr : Rel G st E a) {t : TypeId} {len : Nat} {parts : Array (Nat × Operand)} {e sz : Nat} {xs : List AV} (h : litAV G.P st t len parts = some (e, sz, xs)) :
    ∃ us : Array Value, (Instr.buildSlice t len (parts.map fun (i, x) => (i, a.eval x))).run G.P E.w = .ok (.slice (some ⟨E.w.heap.size, 0, none⟩) len len) (E.w.alloc (.cells us e (0, 0))) ∧
      xs.length = len ∧ (∀ x ∈ xs, x.cells.length = sz) ∧ VRs E (xs.flatMap AV.cells) us.toList ∧ (∀ u ∈ us.toList, u.oneCell' = true) ∧ (∀ x ∈ xs, okCells st x = true) ∧ us.size = len * sz := by
  unfold litAV at h
  split at h
  · cases h
  rename_i e' he
  split at h
  · cases h
  rename_i sz' hsz
  split at h
  case isFalse => cases h
  rename_i hc
  simp only [Option.some.injEq, Prod.mk.injEq] at h
  obtain ⟨rfl, rfl, rfl⟩ := h
  obtain ⟨hidx, hall, ⟨hsmall, _⟩, hzero⟩ := hc
  have hplen : parts.size = len := by have := congrArg List.length hidx; simpa using this
  have hok : ((evParts st parts).all fun x => okCells st x.2) = true := by
    rw [List.all_eq_true] at hall ⊢
    intro x hx; have := hall x hx; simp only [Bool.and_eq_true] at this; exact this.1
  have hcl : ∀ x ∈ (evParts st parts).map (·.2), x.cells.length = sz' := by
    intro x hx
    obtain ⟨y, hy, rfl⟩ := List.mem_map.1 hx
    have := List.all_eq_true.1 hall y hy
    simp only [Bool.and_eq_true, beq_iff_eq] at this
    exact this.2
  let vals := (parts.map fun (i, x) => (i, a.eval x)).toList
  have hvl : vals.length = len := by simp [vals, hplen]
  have hrel : ∀ (i : Nat) (p : Nat × AV) (x : Nat × Value), (evParts st parts)[i]? = some p → vals[i]? = some x → p.1 = x.1 ∧ VRs E p.2.cells x.2.cells.toList ∧ ∀ u ∈ x.2.cells.toList, u.oneCell' = true := fun i p x hp hx => evParts_rel hr hok i p x hp hx
  have hel : (evParts st parts).length = len := by simp [evParts, hplen]
  have hvs : ∀ v ∈ vals, v.2.cells.size = sz' := by
    intro v hv
    obtain ⟨i, hi⟩ := List.mem_iff_getElem?.1 hv
    have hlt : i < (evParts st parts).length := by rw [hel, ← hvl]; exact (List.getElem?_eq_some_iff.1 hi).1
    have h1 := (hrel i _ v (List.getElem?_eq_getElem hlt) hi).2.1.1
    have h2 := hcl ((evParts st parts)[i]).2 (List.mem_map.2 ⟨_, List.getElem_mem hlt, rfl⟩)
    rw [h2] at h1; simpa using h1.symm
  have hvidx : vals.map (·.1) = List.range' 0 vals.length := by
    rw [hvl, ← List.range_eq_range', ← hidx]
    simp [vals, List.map_map, Function.comp_def]
  have hflat : VRs E ((evParts st parts).flatMap fun x => x.2.cells) (vals.flatMap fun v => v.2.cells.toList) := by
    have gen : ∀ (l : List (Nat × AV)) (m : List (Nat × Value)), l.length = m.length → (∀ (i : Nat) p x, l[i]? = some p → m[i]? = some x → VRs E p.2.cells x.2.cells.toList) →
        VRs E (l.flatMap fun x => x.2.cells) (m.flatMap fun v => v.2.cells.toList) := by
      intro l
      induction l with
      | nil => intro m hl _; have : m = [] := List.eq_nil_of_length_eq_zero hl.symm; subst this; exact ⟨rfl, by simp⟩
      | cons p l ih =>
        intro m hl hp
        cases m with
        | nil => simp at hl
        | cons x m =>
          have h0 := hp 0 p x rfl rfl
          have h1 := ih m (by simpa using hl) fun i p' x' h h' => hp (i + 1) p' x' (by simpa using h) (by simpa using h')
          refine ⟨by simp only [List.flatMap_cons, List.length_append, h0.1, h1.1], fun i c u hc hu => ?_⟩
          simp only [List.flatMap_cons] at hc hu
          have hlen := h0.1
          by_cases hi : i < p.2.cells.length
          · rw [List.getElem?_append_left hi] at hc
            rw [List.getElem?_append_left (by omega)] at hu
            exact h0.2 i c u hc hu
          · rw [List.getElem?_append_right (by omega)] at hc
            rw [List.getElem?_append_right (by omega), ← hlen] at hu
            exact h1.2 _ c u hc hu
    exact gen _ _ (by rw [hel, hvl]) fun i p x h h' => (hrel i p x h h').2.1
  have hxs : ((evParts st parts).map (·.2)).flatMap AV.cells = (evParts st parts).flatMap fun x => x.2.cells := by simp [List.flatMap_map]
  obtain ⟨z, hz, hzs⟩ := Option.map_eq_some_iff.1 hzero
  unfold tZero at hz
  cases hie : G.P.info? e' with
  | none => simp [hie] at hz
  | some ie =>
    have hz' : ie.zero = some z := by simpa [hie] using hz
    have hies : ie.size = sz' := by have := hsz; unfold tSize at this; simpa [hie] using this
    have hone : ∀ u ∈ vals.flatMap (fun v => v.2.cells.toList), u.oneCell' = true := by
      intro u hu
      obtain ⟨v, hv, hu⟩ := List.mem_flatMap.1 hu
      obtain ⟨i, hi⟩ := List.mem_iff_getElem?.1 hv
      have hlt : i < (evParts st parts).length := by rw [hel, ← hvl]; exact (List.getElem?_eq_some_iff.1 hi).1
      exact (hrel i _ v (List.getElem?_eq_getElem hlt) hi).2.2 u hu
    have hsizeflat : (vals.flatMap fun v => v.2.cells.toList).length = len * sz' := by
      rw [← hflat.1, ← hxs, flat_length _ hcl]; simp [hel]
    refine ⟨(vals.flatMap fun v => v.2.cells.toList).toArray, ?_, by simp [hel], hcl, by rw [hxs]; exact hflat, hone, fun x hx => ?_, by simpa using hsizeflat⟩
    · by_cases hzl : len * ie.size = 0
      · have hfill := fill_lit (sz := ie.size) vals 0 [] [] (by simp) (by simp [hvl, hzl]) hvidx (by rw [hies]; exact hvs)
        simp only [List.append_nil, List.nil_append] at hfill
        have hfill' : Instr.fill (fun i => some (i * ie.size, ie.size)) #[] vals = some (vals.flatMap fun v => v.2.cells.toList).toArray := hfill
        simp only [vals] at hfill'
        simp only [Instr.buildSlice, Sem.run_bind, run_underlying (tElem_eq he), Result.andThen_ok, run_sizeOf hsz]
        rw [hies] at hzl
        have hn : ¬ len * sz' > 2 ^ 24 := by omega
        rw [hies] at hfill'
        simp only [Array.toList_map] at hfill'
        simp [hzl, newRow, vals, Array.range_zero', hfill']
      · have hfill := fill_lit (sz := ie.size) vals 0 [] ((Array.range (len * ie.size)).map (z.cells[· % z.cells.size]!)).toList (by simp) (by simp [hvl]) hvidx (by rw [hies]; exact hvs)
        simp only [List.nil_append, Array.toArray_toList] at hfill
        exact run_buildSlice E.w t e' len _ _ ie z (tElem_eq he) hie hz' (by rw [hies]; omega) hzl hfill
    · obtain ⟨y, hy, rfl⟩ := List.mem_map.1 hx
      exact List.all_eq_true.1 hok y hy

end
end Go.Abs
