/- The proof layer, part 11: from the form's reading of an argument to abstract values. No condition. -/
import Derived.Test.YtckoolpjphhfdaaFj
import Derived.ProofKit
namespace Go.Abs
open Go Go.RowKit

def allBelow (w : World) : Nat → Prop := fun b => b < w.heap.size

/-- Whatever the form reads at this type stands for a datum. -/
def Opens (P : Program) (t : TypeId) {α : Type} (cells : α → List AV) (ok : α → Prop) : Prop :=
  ∀ (H : Type) (enc : TypeId × Value → H) (w : World) (fuel : Nat) (cs : List Value) (d : DataW H) (ps : List MemPlace),
    DataW.trod enc P w 0 (fun _ => true) true fuel t cs = some (d, ps) → ∃ x, ok x ∧ VRs (env0 (allBelow w) w) (cells x) cs

theorem vrs_one {E : Env} {p : AV} {x : Value} (h : VR E p x) : VRs E [p] [x] := ⟨rfl, fun i a u ha hu => by
  cases i with
  | zero => simp at ha hu; subst ha; subst hu; exact h
  | succ i => simp at ha⟩

theorem vrs_append {E : Env} {as bs : List AV} {us vs : List Value} (h : VRs E as us) (k : VRs E bs vs) : VRs E (as ++ bs) (us ++ vs) := by
  refine ⟨by simp [h.1, k.1], fun i a u ha hu => ?_⟩
  by_cases hi : i < as.length
  · rw [List.getElem?_append_left hi] at ha
    rw [List.getElem?_append_left (by rw [← h.1]; exact hi)] at hu
    exact h.2 i a u ha hu
  · rw [List.getElem?_append_right (by omega)] at ha
    rw [List.getElem?_append_right (by rw [← h.1]; omega), ← h.1] at hu
    exact k.2 _ a u ha hu

theorem Opens.map {P : Program} {t : TypeId} {α β : Type} {cells : α → List AV} {ok : α → Prop} {cells' : β → List AV} {ok' : β → Prop} (h : Opens P t cells ok) (g : α → β) (hc : ∀ x, ok x → cells' (g x) = cells x) (hok : ∀ x, ok x → ok' (g x)) : Opens P t cells' ok' := by
  intro H enc w fuel cs d ps ht
  obtain ⟨x, h1, h2⟩ := h H enc w fuel cs d ps ht
  exact ⟨g x, hok x h1, by rw [hc x h1]; exact h2⟩

section
variable {P : Program} {t : TypeId}

theorem opens_int {k : IntKind} (hu : P.underlying t = some (.int k)) : Opens P t (fun n : Int => [.v (.int k n)]) (fun n => k.min ≤ n ∧ n ≤ k.max) := by
  intro H enc w fuel cs d ps h
  cases fuel with
  | zero => simp [DataW.trod] at h
  | succ fuel =>
    rcases cs with _ | ⟨c, _ | ⟨c2, cs⟩⟩
    · simp [DataW.trod, hu] at h
    · cases c <;> simp [DataW.trod, hu] at h
      rename_i k' n
      obtain ⟨⟨rfl, hw⟩, _, _⟩ := h
      exact ⟨n, by simpa [Lit.wf] using hw, vrs_one (.v _)⟩
    · simp [DataW.trod, hu] at h

theorem opens_bool (hu : P.underlying t = some .bool) : Opens P t (fun n : Bool => [.v (.bool n)]) (fun _ => True) := by
  intro H enc w fuel cs d ps h
  cases fuel with
  | zero => simp [DataW.trod] at h
  | succ fuel =>
    rcases cs with _ | ⟨c, _ | ⟨c2, cs⟩⟩
    · simp [DataW.trod, hu] at h
    · cases c <;> simp [DataW.trod, hu] at h
      rename_i n
      exact ⟨n, trivial, vrs_one (.v _)⟩
    · simp [DataW.trod, hu] at h

theorem opens_string (hu : P.underlying t = some .string) : Opens P t (fun n : List UInt8 => [.v (.string ⟨n.toArray⟩)]) (fun n => n.length ≤ maxLen) := by
  intro H enc w fuel cs d ps h
  cases fuel with
  | zero => simp [DataW.trod] at h
  | succ fuel =>
    rcases cs with _ | ⟨c, _ | ⟨c2, cs⟩⟩
    · simp [DataW.trod, hu] at h
    · cases c <;> simp [DataW.trod, hu] at h
      rename_i s
      exact ⟨s.data.toList, by simpa using h.1, vrs_one (.v _)⟩
    · simp [DataW.trod, hu] at h

theorem mapM_some {α β : Type} {f : α → Option β} : ∀ (l : List α) (r : List β), l.mapM f = some r → l.length = r.length ∧ ∀ (i : Nat) a, l[i]? = some a → ∃ b, r[i]? = some b ∧ f a = some b
  | [], r, h => by simp at h; subst h; exact ⟨rfl, by simp⟩
  | a :: l, r, h => by
    simp only [List.mapM_cons, Option.bind_eq_bind, Option.bind_eq_some_iff, Option.pure_def, Option.some.injEq] at h
    obtain ⟨b, hb, r', hr', rfl⟩ := h
    obtain ⟨h1, h2⟩ := mapM_some l r' hr'
    refine ⟨by simp [h1], fun i x hx => ?_⟩
    cases i with
    | zero => simp at hx; subst hx; exact ⟨b, rfl, hb⟩
    | succ i => obtain ⟨y, hy, hf⟩ := h2 i x (by simpa using hx); exact ⟨y, by simpa using hy, hf⟩

theorem opens_slice {e : TypeId} {sz : Nat} (hu : P.underlying t = some (.slice e)) (hsz : P.cellsOf e = sz) (hpos : 0 < sz) {α : Type} {cells : α → List AV} {ok : α → Prop} (he : Opens P e cells ok) (el : α → AV) (hel : ∀ x, (el x).cells = cells x) :
    Opens P t (fun l : List α => [.lst sz (l.map el)]) (fun l => ∀ x ∈ l, ok x) := by
  intro H enc w fuel cs d ps h
  cases fuel with
  | zero => simp [DataW.trod] at h
  | succ fuel =>
    have hcase : (cs = [.slice none 0 0] ∨ ∃ ad len cap, cs = [.slice (some ad) len cap]) := by
      rcases cs with _ | ⟨c, _ | ⟨c2, cs⟩⟩
      · simp [DataW.trod, hu] at h
      · cases c with
        | slice a len cap =>
          cases a with
          | none =>
            cases len <;> cases cap <;> first | exact .inl rfl | (simp [DataW.trod, hu] at h)
          | some ad => exact .inr ⟨ad, len, cap, rfl⟩
        | _ => simp [DataW.trod, hu] at h
      · simp [DataW.trod, hu] at h
    rcases hcase with rfl | ⟨ad, len, cap, rfl⟩
    · exact ⟨[], by simp, vrs_one (.lstNil sz)⟩
    · unfold DataW.trod at h
      simp only [hu] at h
      split at h
      case isFalse => cases h
      rename_i hc
      obtain ⟨_, hlc, hcm⟩ := hc
      obtain ⟨els, hels, _⟩ := Option.bind_eq_some_iff.1 h
      obtain ⟨h1, h2⟩ := mapM_some _ _ hels
      have hl1 : els.length = len := by simpa using h1.symm
      -- each element
      have hx : ∀ i, i < len → ∃ (x : α) (us : List Value), ok x ∧ us.length = sz ∧ (∀ j u, us[j]? = some u → w.cell? ((ad.add (i * sz)).add j) = some u) ∧ VRs (env0 (allBelow w) w) (cells x) us := by
        intro i hi
        obtain ⟨b, _, hb⟩ := h2 i i (by simp [hi])
        obtain ⟨us, hus, htr⟩ := Option.bind_eq_some_iff.1 hb
        unfold World.cells? at hus
        rw [if_pos (Nat.zero_le _)] at hus
        obtain ⟨g1, g2⟩ := mapM_some _ _ hus
        have hul : us.length = sz := by rw [← hsz]; simpa using g1.symm
        obtain ⟨x, hx1, hx2⟩ := he H enc w fuel us b.1 b.2 htr
        refine ⟨x, us, hx1, hul, fun j u hu' => ?_, hx2⟩
        have hj : j < sz := by rw [← hul]; exact (List.getElem?_eq_some_iff.1 hu').1
        obtain ⟨y, hy, hcell⟩ := g2 j j (by simp [hsz, hj])
        rw [hu'] at hy; cases hy
        rw [hsz] at hcell; exact hcell
      rcases Nat.eq_zero_or_pos len with h0 | h0
      · subst h0
        exact ⟨[], by simp, vrs_one (.lstNo sz cap ad hcm)⟩
      · let xf : Nat → α := fun i => if hi : i < len then (hx i hi).choose else (hx 0 h0).choose
        have hxf : ∀ i, i < len → ∃ us : List Value, ok (xf i) ∧ us.length = sz ∧ (∀ j u, us[j]? = some u → w.cell? ((ad.add (i * sz)).add j) = some u) ∧ VRs (env0 (allBelow w) w) (cells (xf i)) us := by
          intro i hi; simp only [xf, hi, dif_pos]; exact (hx i hi).choose_spec
        -- the address has no spot
        have hspot : ad.spot = none := by
          obtain ⟨us, _, hul, hcell, _⟩ := hxf 0 h0
          have := hcell 0 _ (List.getElem?_eq_getElem (by omega))
          simp only [Nat.zero_mul] at this
          have e : (ad.add 0).add 0 = ad := by simp [Addr.add]
          rw [e] at this
          cases hs : ad.spot with
          | none => rfl
          | some s =>
            exfalso
            unfold World.cell? at this
            split at this
            · simp [hs] at this
            · cases this
        obtain ⟨blk, off, spot⟩ := ad
        simp only at hspot
        subst hspot
        have hlt : blk < w.heap.size := by
          obtain ⟨us, _, hul, hcell, _⟩ := hxf 0 h0
          have := hcell 0 _ (List.getElem?_eq_getElem (by omega))
          rw [add_none, add_none] at this
          exact block_lt_of_cell this
        let u : Nat → Value := fun k => (w.cell? ⟨blk, off + k, none⟩).getD undef
        have hu : ∀ i, i < len → ∀ j, j < sz → w.cell? ⟨blk, off + (i * sz + j), none⟩ = some (u (i * sz + j)) := by
          intro i hi j hj
          obtain ⟨us, _, hul, hcell, _⟩ := hxf i hi
          have := hcell j _ (List.getElem?_eq_getElem (by omega))
          rw [add_none, add_none, Nat.add_assoc] at this
          simp [u, this]
        refine ⟨(List.range len).map xf, fun x hx' => ?_, vrs_one ?_⟩
        · obtain ⟨i, hi, rfl⟩ := List.mem_map.1 hx'
          obtain ⟨us, hok, _⟩ := hxf i (List.mem_range.1 hi)
          exact hok
        · have hlen : (((List.range len).map xf).map el).length = len := by simp
          have key := VR.lst (E := env0 (allBelow w) w) sz (((List.range len).map xf).map el) blk off cap u hlt (by rw [hlen]; exact hlc) hcm
            (fun k hk => by
              rw [hlen] at hk
              have hd : k / sz < len := Nat.div_lt_of_lt_mul (by rw [Nat.mul_comm]; exact hk)
              have hkk : k / sz * sz + k % sz = k := by rw [Nat.mul_comm]; exact Nat.div_add_mod k sz
              have := hu (k / sz) hd (k % sz) (Nat.mod_lt _ hpos)
              rwa [hkk] at this)
            (fun i x hi => by
              simp only [List.map_map, List.getElem?_map, Option.map_eq_some_iff] at hi
              obtain ⟨j, hj, rfl⟩ := hi
              have hj' : j < len := by have := List.mem_of_getElem? hj; simpa using this
              obtain ⟨us, _, hul, _, hv⟩ := hxf j hj'
              simp only [Function.comp, hel]; rw [hv.1]; exact hul)
            (fun i x j c hi hj => by
              simp only [List.map_map, List.getElem?_map, Option.map_eq_some_iff] at hi
              obtain ⟨i', hi', rfl⟩ := hi
              have hii : i' = i ∧ i < len := by
                by_cases hi2 : i < len
                · rw [List.getElem?_range hi2] at hi'; cases hi'; exact ⟨rfl, hi2⟩
                · rw [List.getElem?_eq_none (by simpa using hi2)] at hi'; cases hi'
              obtain ⟨rfl, hil⟩ := hii
              obtain ⟨us, _, hul, hcell, hv⟩ := hxf i' hil
              simp only [Function.comp, hel] at hj
              have hjl : j < us.length := by rw [← hv.1]; exact (List.getElem?_eq_some_iff.1 hj).1
              have h3 := hcell j _ (List.getElem?_eq_getElem hjl)
              rw [add_none, add_none, Nat.add_assoc] at h3
              have h4 : u (i' * sz + j) = us[j] := by simp [u, h3]
              rw [h4]
              exact hv.2 j c _ hj (List.getElem?_eq_getElem hjl))
          rw [hlen] at key
          exact key

/-- The fields of a struct, from an offset on. -/
def OpensFs (P : Program) (off : Nat) (fs : List Field) (size : Nat) {α : Type} (cells : α → List AV) (ok : α → Prop) : Prop :=
  (∀ x, ok x → (cells x).length = size) ∧
  ∀ (H : Type) (enc : TypeId × Value → H) (w : World) (fuel : Nat) (cs : List Value) (xs : List (DataW H × List MemPlace)), off + size ≤ cs.length →
    (fs.mapM fun f => DataW.trod enc P w 0 (fun _ => true) true fuel f.type ((cs.drop f.offset).take (P.cellsOf f.type))) = some xs → ∃ x, ok x ∧ VRs (env0 (allBelow w) w) (cells x) ((cs.drop off).take size)

theorem opensFs_nil {off : Nat} : OpensFs P off [] 0 (fun _ : Unit => []) (fun _ => True) :=
  ⟨fun _ _ => rfl, fun _ _ _ _ _ _ _ _ => ⟨(), trivial, by simp [VRs]⟩⟩

theorem opensFs_cons {off : Nat} {f : Field} {fs : List Field} {s1 s2 : Nat} {α β : Type} {c1 : α → List AV} {ok1 : α → Prop} {c2 : β → List AV} {ok2 : β → Prop} (hoff : f.offset = off) (hs : P.cellsOf f.type = s1) (hl : ∀ x, ok1 x → (c1 x).length = s1)
    (h1 : Opens P f.type c1 ok1) (h2 : OpensFs P (off + s1) fs s2 c2 ok2) : OpensFs P off (f :: fs) (s1 + s2) (fun x : α × β => c1 x.1 ++ c2 x.2) (fun x => ok1 x.1 ∧ ok2 x.2) := by
  refine ⟨fun x hx => by rw [List.length_append, hl _ hx.1, h2.1 _ hx.2], fun H enc w fuel cs xs hle hm => ?_⟩
  simp only [List.mapM_cons, Option.bind_eq_bind, Option.bind_eq_some_iff, Option.pure_def, Option.some.injEq] at hm
  obtain ⟨y, hy, ys, hys, rfl⟩ := hm
  rw [hoff, hs] at hy
  obtain ⟨a, ha, hva⟩ := h1 H enc w fuel _ y.1 y.2 hy
  obtain ⟨b, hb, hvb⟩ := h2.2 H enc w fuel cs ys (by omega) hys
  refine ⟨(a, b), ⟨ha, hb⟩, ?_⟩
  have e : (cs.drop off).take (s1 + s2) = (cs.drop off).take s1 ++ (cs.drop (off + s1)).take s2 := by
    rw [List.take_add, List.drop_drop]
  rw [e]
  exact vrs_append hva hvb

theorem opens_struct {fs : Array Field} {size : Nat} {α : Type} {cells : α → List AV} {ok : α → Prop} (hu : P.underlying t = some (.struct fs)) (hsz : P.cellsOf t = size) (h : OpensFs P 0 fs.toList size cells ok) : Opens P t cells ok := by
  intro H enc w fuel cs d ps ht
  cases fuel with
  | zero => simp [DataW.trod] at ht
  | succ fuel =>
    unfold DataW.trod at ht
    simp only [hu] at ht
    have ht' : (if cs.length = P.cellsOf t then (fs.toList.mapM fun f => DataW.trod enc P w 0 (fun _ => true) true fuel f.type ((cs.drop f.offset).take (P.cellsOf f.type))).map fun xs => (DataW.agg (xs.map (·.1)), xs.flatMap (·.2)) else none) = some (d, ps) := ht
    clear ht
    split at ht'
    case isFalse => cases ht'
    rename_i hl
    have ht := ht'
    obtain ⟨xs, hxs, _⟩ := Option.map_eq_some_iff.1 ht
    rw [hsz] at hl
    obtain ⟨x, hx, hv⟩ := h.2 H enc w fuel cs xs (by omega) hxs
    refine ⟨x, hx, ?_⟩
    rw [List.drop_zero, List.take_of_length_le (by omega)] at hv
    exact hv

end
end Go.Abs
