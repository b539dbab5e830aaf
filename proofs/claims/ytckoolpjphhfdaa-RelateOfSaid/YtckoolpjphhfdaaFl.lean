/- The proof layer, part 12: from a law's contract to its row. No condition. -/
import Derived.Test.YtckoolpjphhfdaaFk
namespace Go.Abs
open Go Go.RowKit Go.ChangeShapes

/-- What stands for an argument: of a struct its cells together, of another type its one cell. -/
def OpensArg (P : Program) (t : TypeId) {α : Type} (enc : α → AV) (ok : α → Prop) : Prop :=
  ∀ (H : Type) (en : TypeId × Value → H) (w : World) (r : Reach) (base : Nat) (v : Value) (d : DataW H) (ps : List MemPlace),
    Value.okWide P w r base t v → DataW.Trod en P w 0 (fun _ => true) true t v d ps → ∃ x, ok x ∧ VR (env0 (allBelow w) w) (enc x) v

theorem opensArg_agg {P : Program} {t : TypeId} {α : Type} {cells : α → List AV} {ok : α → Prop} (ht : tAgg P t = some true) (h : Opens P t cells ok) : OpensArg P t (fun x => .agg (cells x)) ok := by
  intro H en w r base v d ps hv ⟨fuel, htr⟩
  have hagg : ∃ cs, v = .agg cs := by
    unfold tAgg at ht
    unfold Value.okWide at hv
    split at ht
    · rename_i fs hu; rw [hu] at hv; obtain ⟨cs, hcs, _⟩ := hv; exact ⟨cs, hcs⟩
    · rename_i n e hu; rw [hu] at hv; obtain ⟨cs, hcs, _⟩ := hv; exact ⟨cs, hcs⟩
    · cases ht
    · cases ht
  obtain ⟨cs, rfl⟩ := hagg
  obtain ⟨x, hx, hvs⟩ := h H en w fuel _ d ps htr
  refine ⟨x, hx, .agg _ _ (by simpa [Value.cells] using hvs.1) fun i c hc => ?_⟩
  have hi : i < cs.size := by have := hvs.1; simp [Value.cells] at this; rw [← this]; exact (List.getElem?_eq_some_iff.1 hc).1
  exact hvs.2 i c _ hc (by simp [Value.cells, Array.getD_eq_getD_getElem?, hi])

theorem opensArg_one {P : Program} {t : TypeId} {α : Type} {el : α → AV} {ok : α → Prop} (ht : tAgg P t = some false) (h : Opens P t (fun x => [el x]) ok) : OpensArg P t el ok := by
  intro H en w r base v d ps hv ⟨fuel, htr⟩
  have hone : v.cells = #[v] := by
    cases v with
    | agg cs =>
      exfalso
      unfold tAgg at ht
      unfold Value.okWide at hv
      split at ht
      · cases ht
      · cases ht
      · rename_i d' h1 h2 hu
        cases d' with
        | struct fs => exact h1 fs rfl
        | array n e => exact h2 n e rfl
        | _ => simp [hu, Cell.okWide, Cell.ok] at hv
      · cases ht
    | _ => rfl
  rw [hone] at htr
  obtain ⟨x, hx, hvs⟩ := h H en w fuel _ d ps htr
  exact ⟨x, hx, hvs.2 0 _ v rfl rfl⟩

/-- All arguments, one after the other. -/
def OpensArgs (P : Program) (ts : List TypeId) {α : Type} (enc : α → List AV) (ok : α → Prop) : Prop :=
  ∀ (H : Type) (en : TypeId × Value → H) (w : World) (r : Reach) (base : Nat) (vs : List Value) (ds : List (DataW H)) (ps : List MemPlace),
    (∀ (j : Nat) t v, ts[j]? = some t → vs[j]? = some v → Value.okWide P w r base t v) → DataW.TrodAll en P w 0 (fun _ => true) true ts vs ds ps →
    ∃ x, ok x ∧ (enc x).length = vs.length ∧ ∀ (i : Nat) p v, (enc x)[i]? = some p → vs[i]? = some v → VR (env0 (allBelow w) w) p v

theorem opensArgs_nil {P : Program} : OpensArgs P [] (fun _ : Unit => []) (fun _ => True) := by
  intro H en w r base vs ds ps _ h
  cases vs with
  | nil => exact ⟨(), trivial, rfl, by simp⟩
  | cons v vs => cases ds <;> exact h.elim

theorem opensArgs_cons {P : Program} {t : TypeId} {ts : List TypeId} {α β : Type} {e1 : α → AV} {ok1 : α → Prop} {e2 : β → List AV} {ok2 : β → Prop} (h1 : OpensArg P t e1 ok1) (h2 : OpensArgs P ts e2 ok2) :
    OpensArgs P (t :: ts) (fun x : α × β => e1 x.1 :: e2 x.2) (fun x => ok1 x.1 ∧ ok2 x.2) := by
  intro H en w r base vs ds ps hv h
  cases vs with
  | nil => cases ds <;> exact h.elim
  | cons v vs =>
    cases ds with
    | nil => exact h.elim
    | cons d ds =>
      obtain ⟨p, q, hd, hrest, _⟩ := h
      obtain ⟨x, hx, hvx⟩ := h1 H en w r base v d p (hv 0 t v rfl rfl) hd
      obtain ⟨y, hy, hl, hvy⟩ := h2 H en w r base vs ds q (fun j t' v' h h' => hv (j + 1) t' v' (by simpa using h) (by simpa using h')) hrest
      refine ⟨(x, y), ⟨hx, hy⟩, by simp [hl], fun i p v' hp hv' => ?_⟩
      cases i with
      | zero => simp at hp hv'; subst hp; subst hv'; exact hvx
      | succ i => exact hvy i p v' (by simpa using hp) (by simpa using hv')

theorem trodAll_len {H : Type} {en : TypeId × Value → H} {P : Program} {w : World} {base : Nat} {spare : Nat → Bool} {held : Bool} : ∀ (ts : List TypeId) (vs : List Value) (ds : List (DataW H)) (ps : List MemPlace), DataW.TrodAll en P w base spare held ts vs ds ps → ts.length = vs.length ∧ ts.length = ds.length
  | [], [], [], _, _ => ⟨rfl, rfl⟩
  | t :: ts, v :: vs, d :: ds, _, ⟨_, q, _, h, _⟩ => by have := trodAll_len ts vs ds q h; exact ⟨by simp [this.1], by simp [this.2]⟩
  | [], _ :: _, _, _, h => by rename_i x _; cases x <;> exact h.elim
  | [], [], _ :: _, _, h => h.elim
  | _ :: _, [], _, _, h => by rename_i x _; cases x <;> exact h.elim
  | _ :: _, _ :: _, [], _, h => h.elim

theorem trodAll_stays {H : Type} {en : TypeId × Value → H} {P : Program} (hl : laidOutB P = true) {W W' : World} (hb : Below W.heap.size W W') : ∀ (ts : List TypeId) (vs : List Value) (ds : List (DataW H)) (ps : List MemPlace), (∀ t ∈ ts, P.readableRec t = true ∧ t < P.types.size) →
    DataW.TrodAll en P W 0 (fun _ => true) true ts vs ds ps → (∀ x ∈ ps, x.block < W.heap.size) → DataW.TrodAll en P W' 0 (fun b => decide (b < W.heap.size)) true ts vs ds ps
  | [], [], [], _, _, h, _ => h
  | t :: ts, v :: vs, d :: ds, _, ht, ⟨p, q, h1, h2, he⟩, hlt => by
    subst he
    exact ⟨p, q, Below.trod hl (ht t (by simp)).1 (ht t (by simp)).2 h1 hb fun x hx => hlt x (by simp [hx]), trodAll_stays hl hb ts vs ds q (fun t' ht' => ht t' (by simp [ht'])) h2 fun x hx => hlt x (by simp [hx]), rfl⟩
  | [], _ :: _, _, _, _, h, _ => by rename_i x _ _ _; cases x <;> exact h.elim
  | [], [], _ :: _, _, _, h, _ => h.elim
  | _ :: _, [], _, _, _, h, _ => by rename_i x _ _ _; cases x <;> exact h.elim
  | _ :: _, _ :: _, [], _, _, h, _ => h.elim

/-- A law whose contract is proved for every datum meets its row's 'post'. -/
theorem law_calls {P : Program} {f : FuncId} {fn : Func} {s : ChangeSpec} {bt : TypeId} {H : Type} {en : TypeId × Value → H} {α : Type} {enc : α → List AV} {ok : α → Prop} (hl : laidOutB P = true)
    (hts : ∀ t ∈ fn.params.toList, P.readableRec t = true ∧ t < P.types.size) (hvars : s.vars = []) (hres : fn.resultTypes = #[bt]) (hbt : P.underlying bt = some .bool)
    (hfn : ∀ ds : List (DataW H), ds.length = fn.params.toList.length → s.fn H ds = { results := [.lit (.bool true)], args := ds })
    (ho : OpensArgs P fn.params.toList enc ok) (hac : ∀ x, ok x → AC P f (enc x) (.v (.bool true)))
    {W : World} {base : Nat} {args : Array Value} {ds gs : List (DataW H)} {before : List MemPlace} (hval : ∀ (j : Nat) t v, fn.params[j]? = some t → args[j]? = some v → Value.okWide P W .any base t v)
    (hW : DataW.Whole en P fn.params.toList s.vars false W args.toList ds gs before) :
    Calls P f args W fun e W' => ∃ v, e = .returned v ∧ s.post en P fn false true false false W args v W' := by
  have hW' := hW
  obtain ⟨p, q, hA, hV, rfl, hfz, hnd⟩ := hW
  rw [hvars] at hV
  have hgs : gs = [] ∧ q = [] := by
    cases gs with
    | nil => exact ⟨rfl, hV⟩
    | cons g gs => exact hV.elim
  obtain ⟨rfl, rfl⟩ := hgs
  obtain ⟨x, hx, hlen, hv⟩ := ho H en W .any base args.toList ds p (fun j t v ht hv => hval j t v (by simpa using ht) (by simpa using hv)) hA
  refine ((hac x hx).run (allBelow W) W args (fun _ h => h) (by simpa using hlen.symm) fun i p' hp => ?_).mono ?_
  · have hi : i < args.size := by have := (List.getElem?_eq_some_iff.1 hp).1; rw [hlen] at this; simpa using this
    exact hv i p' _ hp (by simp [Array.getD_eq_getD_getElem?, hi])
  · rintro e W' ⟨v, S', rfl, hb, _, _, _, hr⟩
    have hv' : v = .bool true := VR.v_inv (E := env0 S' W') hr
    subst hv'
    have hl2 := (trodAll_len _ _ _ _ hA).2
    have hlt : ∀ x ∈ p, x.block < W.heap.size := fun x hx => hW'.lt x (by simp [hx])
    refine ⟨_, rfl, ds, [], p ++ [], [], p, [], hW', ?_, ?_, ?_, hb.frame _, fun h => by cases h⟩
    · rw [List.append_nil, hfn ds hl2.symm, hres]
      exact ⟨[], [], ⟨1, by simp [DataW.trod, hbt, Value.cells]⟩, rfl, rfl⟩
    · rw [List.append_nil, hfn ds hl2.symm]
      exact trodAll_stays hl hb _ _ _ _ hts hA hlt
    · rw [List.append_nil, hfn ds hl2.symm, hvars]; rfl

end Go.Abs
