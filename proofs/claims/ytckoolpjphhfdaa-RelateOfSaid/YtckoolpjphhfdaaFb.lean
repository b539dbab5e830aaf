/- The proof layer, part 2: operations that only compute or read: what they give on abstract values. No condition. -/
import Derived.Test.YtckoolpjphhfdaaFa
namespace Go.Abs
open Go Go.RowKit

def tSize (P : Program) (t : TypeId) : Option Nat := (P.info? t).map (·.size)
def tBytes (P : Program) (t : TypeId) : Option Nat := (P.info? t).map (·.bytes)
def tZero (P : Program) (t : TypeId) : Option Value := (P.info? t).bind (·.zero)
def tAgg (P : Program) (t : TypeId) : Option Bool :=
  match P.underlying t with
  | some (.struct _) | some (.array _ _) => some true
  | some _ => some false
  | none => none
def tElem (P : Program) (t : TypeId) : Option TypeId :=
  match P.underlying t with
  | some (.slice e) => some e
  | _ => none
/-- The offset of a field whose type is not of size 0, and that type. -/
def tField (P : Program) (t : TypeId) (f : Nat) : Option (Nat × TypeId) :=
  match P.underlying t with
  | some (.struct fs) => match fs[f]? with
    | some x => match tSize P x.type with
      | some (_ + 1) => some (x.offset, x.type)
      | _ => none
    | none => none
  | _ => none
def tInt (P : Program) (t : TypeId) : Option IntKind :=
  match P.underlying t with
  | some (.int k) => some k
  | _ => none

def tStr (P : Program) (t : TypeId) : Bool :=
  match P.underlying t with
  | some .string => true
  | _ => false
/-- A fixed array's length and the size of its elements. -/
def tArr (P : Program) (t : TypeId) : Option (Nat × Nat) :=
  match P.underlying t with
  | some (.array n e) => (tSize P e).map fun m => (n, m)
  | _ => none
theorem tArr_eq {P : Program} {t : TypeId} {n m : Nat} (h : tArr P t = some (n, m)) : ∃ e, P.underlying t = some (.array n e) ∧ tSize P e = some m := by
  unfold tArr at h
  split at h
  · rename_i n' e hu
    obtain ⟨m', h1, h2⟩ := Option.map_eq_some_iff.1 h
    simp only [Prod.mk.injEq] at h2
    obtain ⟨rfl, rfl⟩ := h2
    exact ⟨e, hu, h1⟩
  · cases h
theorem tStr_eq {P : Program} {t : TypeId} (h : tStr P t = true) : P.underlying t = some .string := by
  unfold tStr at h; split at h <;> first | assumption | cases h
theorem tElem_eq {P : Program} {t e : TypeId} (h : tElem P t = some e) : P.underlying t = some (.slice e) := by
  unfold tElem at h; split at h <;> first | (cases h; assumption) | cases h
theorem tInt_eq {P : Program} {t : TypeId} {k : IntKind} (h : tInt P t = some k) : P.underlying t = some (.int k) := by
  unfold tInt at h; split at h <;> first | (cases h; assumption) | cases h

theorem add_none (b o j : Nat) : (⟨b, o, none⟩ : Addr).add j = ⟨b, o + j, none⟩ := by
  unfold Addr.add; split <;> simp_all

theorem flat_get {sz : Nat} : ∀ (xs : List AV) (i : Nat) (x : AV) (j : Nat), (∀ x ∈ xs, x.cells.length = sz) → xs[i]? = some x → j < sz → (xs.flatMap AV.cells)[i * sz + j]? = x.cells[j]?
  | [], i, x, j, _, h, _ => by simp at h
  | y :: ys, 0, x, j, hl, h, hj => by
    have hy : y = x := by simpa using h
    subst hy
    have := hl y (by simp)
    rw [List.flatMap_cons, Nat.zero_mul, Nat.zero_add, List.getElem?_append_left (by omega)]
  | y :: ys, i + 1, x, j, hl, h, hj => by
    have h1 := hl y (by simp)
    rw [List.flatMap_cons, List.getElem?_append_right (by rw [h1, Nat.succ_mul]; omega), h1, show (i + 1) * sz + j - sz = i * sz + j from by rw [Nat.succ_mul]; omega]
    exact flat_get ys i x j (fun x hx => hl x (by simp [hx])) (by simpa using h) hj

theorem flat_length {sz : Nat} : ∀ (xs : List AV), (∀ x ∈ xs, x.cells.length = sz) → (xs.flatMap AV.cells).length = xs.length * sz
  | [], _ => by simp
  | x :: xs, h => by
    rw [List.flatMap_cons, List.length_append, flat_length xs fun y hy => h y (by simp [hy]), h x (by simp), List.length_cons, Nat.succ_mul]; omega

def ldCells (st : St) (m : Nat) : AV → Option (List AV)
  | .eptr cs j => if j + m ≤ cs.length then some ((cs.drop j).take m) else none
  | .rptr id k i j => if k = st.ver id then
      match st.h id with
      | .box cs => if i = 0 ∧ j + m ≤ cs.length then some ((cs.drop j).take m) else none
      | .arr _ _ xs => match xs[i]? with
        | some x => if j + m ≤ x.cells.length then some ((x.cells.drop j).take m) else none
        | none => none
      | _ => none
    else none
  | _ => none

def mkAV : Bool → List AV → Option AV
  | true, cs => some (.agg cs)
  | false, cs => match cs with
    | [c] => some c
    | _ => none

def ldAV (P : Program) (st : St) (t : TypeId) (x : AV) : Option AV :=
  match tAgg P t, tSize P t with
  | some b, some m => (ldCells st m x).bind (mkAV b)
  | _, _ => none

section
variable {G : Ctx} {st : St} {E : Env} {a : Act}

theorem ldCells_sound (hr : Rel G st E a) {x : AV} {y : Value} {m : Nat} {cs : List AV} (hx : VR E x y) (h : ldCells st m x = some cs) :
    ∃ (p : Addr) (us : List Value), y = .pointer (some p) ∧ us.length = m ∧ (∀ j u, us[j]? = some u → E.w.cell? (p.add j) = some u) ∧ VRs E cs us := by
  cases hx with
  | eptr ds j b off u hS h1 h2 =>
    simp only [ldCells] at h
    split at h
    · rename_i hm
      cases h
      refine ⟨_, (List.range m).map fun i => u (j + i), rfl, by simp, ?_, by simp; omega, ?_⟩
      · intro i v hv
        simp only [List.getElem?_map, List.getElem?_range', Option.map_eq_some_iff] at hv
        obtain ⟨k, hk, rfl⟩ := hv
        have hk' : k = i ∧ i < m := by
          by_cases hi : i < m
          · rw [List.getElem?_eq_getElem (by simpa using hi)] at hk; simp at hk; omega
          · rw [List.getElem?_eq_none (by simpa using hi)] at hk; cases hk
        rw [add_none, hk'.1, Nat.add_assoc]
        exact h1 _ (by omega)
      · intro i c v hc hv
        simp only [List.getElem?_take, List.getElem?_drop] at hc
        split at hc
        · rename_i him
          simp [him] at hv
          subst hv
          exact h2 _ c hc
        · cases hc
    · cases h
  | rptr id k i j _ h1 h2 =>
    simp only [ldCells] at h
    split at h
    · rename_i hk
      have hy := h2 (by rw [hr.ver]; exact hk)
      subst hy
      have hb := hr.blocks id
      split at h
      · rename_i ds hh
        rw [hh] at hb
        obtain ⟨us, t, hheap, _, _, hvs⟩ := hb
        split at h
        · rename_i hm
          cases h
          obtain ⟨rfl, hm⟩ := hm
          refine ⟨_, (us.toList.drop j).take m, rfl, ?_, ?_, ?_, ?_⟩
          · have := hvs.1; simp at this ⊢; omega
          · intro n v hv
            rw [Nat.zero_mul, Nat.zero_add, add_none, cell_of_row _ _ _ _ _ _ hheap]
            simp only [List.getElem?_take, List.getElem?_drop] at hv
            split at hv
            · simpa using hv
            · cases hv
          · have := hvs.1; simp at this ⊢; omega
          · intro n c v hc hv
            simp only [List.getElem?_take, List.getElem?_drop] at hc hv
            split at hc
            · rename_i hn; simp only [hn, if_true] at hv; exact hvs.2 _ c v hc hv
            · cases hc
        · cases h
      · rename_i e sz xs hh
        rw [hh] at hb
        obtain ⟨hsz, us, hown, hlen, hvs, hblk⟩ := hb
        split at h
        · rename_i x hx
          split at h
          · rename_i hm
            cases h
            have hxl := hlen x (List.mem_of_getElem? hx)
            have hul := hvs.1
            rw [flat_length xs hlen] at hul
            have hi : i < xs.length := (List.getElem?_eq_some_iff.1 hx).1
            have hmul : i * sz + sz ≤ xs.length * sz := by rw [← Nat.succ_mul]; exact Nat.mul_le_mul_right _ hi
            rcases Nat.eq_zero_or_pos m with hm0 | hm0
            · subst hm0
              exact ⟨_, [], rfl, rfl, by simp, by simp [VRs]⟩
            have hpos : 0 < us.length := by omega
            obtain ⟨g, hg⟩ : ∃ g, (E.own id).val.ownBlock = some g := by
              rcases hown.2 with ⟨hv, hn⟩ | ⟨g, cap, cur, hv, _⟩
              · omega
              · exact ⟨g, by rw [hv]; rfl⟩
            obtain ⟨hg1, _⟩ := hblk g hg
            have hcells := hown.cells hg
            refine ⟨_, (us.drop (i * sz + j)).take m, rfl, ?_, ?_, ?_, ?_⟩
            · simp; omega
            · intro n v hv
              rw [add_none, hsz, hg1]
              simp only [List.getElem?_take, List.getElem?_drop] at hv
              split at hv
              · have := hcells _ v hv
                rw [add_none, Nat.zero_add] at this
                exact this
              · cases hv
            · simp; omega
            · intro n c v hc hv
              simp only [List.getElem?_take, List.getElem?_drop] at hc hv
              split at hc
              · rename_i hn
                simp only [hn, if_true] at hv
                refine hvs.2 (i * sz + j + n) c v ?_ hv
                rw [Nat.add_assoc, flat_get xs i x (j + n) hlen hx (by omega)]
                exact hc
              · cases hc
          · cases h
        · cases h
      · cases h
    · cases h
  | junk _ => simp [ldCells] at h
  | v _ => simp [ldCells] at h
  | agg _ _ => simp [ldCells] at h
  | tup _ _ => simp [ldCells] at h
  | lst _ _ _ _ _ _ => simp [ldCells] at h
  | lstNil _ => simp [ldCells] at h
  | lstNo _ _ _ _ => simp [ldCells] at h
  | ref _ _ _ _ => simp [ldCells] at h
  | fn _ _ _ _ _ => simp [ldCells] at h
  | mapv _ _ _ _ _ => simp [ldCells] at h
  | full _ _ _ _ => simp [ldCells] at h
  | osl _ _ _ _ _ _ _ _ => simp [ldCells] at h

theorem run_isAgg {P : Program} {t : TypeId} {b : Bool} (h : tAgg P t = some b) (w : World) : (isAgg t).run P w = .ok b w := by
  unfold tAgg at h
  unfold isAgg
  split at h
  · rename_i fs hu
    cases h
    simp [run_underlying hu]
  · rename_i n e hu
    cases h
    simp [run_underlying hu]
  · rename_i d hs ha hu
    cases h
    rw [Sem.run_bind, run_underlying hu w]
    cases d with
    | struct fs => exact (hs fs rfl).elim
    | array n e => exact (ha n e rfl).elim
    | _ => rfl
  · cases h

theorem run_sizeOf {P : Program} {t : TypeId} {m : Nat} (h : tSize P t = some m) (w : World) : (sizeOf t).run P w = .ok m w := by
  unfold tSize at h
  cases hi : P.info? t with
  | none => simp [hi] at h
  | some i => simp [hi] at h; simp [sizeOf, typeInfo, hi, h]

theorem ldAV_sound (hr : Rel G st E a) {t : TypeId} {x r : AV} {y : Value} (hx : VR E x y) (h : ldAV G.P st t x = some r) :
    ∃ z, (Instr.loadAt t y).run G.P E.w = .ok z E.w ∧ VR E r z := by
  unfold ldAV at h
  split at h
  · rename_i b m hb hm
    obtain ⟨cs, hcs, hmk⟩ := Option.bind_eq_some_iff.1 h
    obtain ⟨p, us, rfl, hul, hcell, hvs⟩ := ldCells_sound hr hx hcs
    cases b with
    | true =>
      simp only [mkAV, Option.some.injEq] at hmk
      subst hmk
      refine ⟨.agg us.toArray, ?_, .agg _ _ (by simpa using hvs.1) fun i c hc => ?_⟩
      · have := run_loadCells_list (P := G.P) E.w p us hcell
        rw [hul] at this
        simp [Instr.loadAt, Instr.sureAddr, loadVar, run_isAgg hb, run_sizeOf hm, this]
      · have hi : i < us.length := by rw [← hvs.1]; exact (List.getElem?_eq_some_iff.1 hc).1
        have := hvs.2 i c us[i] hc (List.getElem?_eq_getElem hi)
        simpa [Array.getD, hi] using this
    | false =>
      simp only [mkAV] at hmk
      split at hmk
      · rename_i c
        cases hmk
        have h1 : us.length = 1 := by have := hvs.1; simpa using this.symm
        obtain ⟨u, rfl⟩ := List.length_eq_one_iff.1 h1
        refine ⟨u, ?_, hvs.2 0 _ u rfl rfl⟩
        have := hcell 0 u rfl
        have hp : p.add 0 = p := by simp [Addr.add]
        rw [hp] at this
        simp [Instr.loadAt, Instr.sureAddr, loadVar, run_isAgg hb, this]
      · cases hmk
  · cases h

end
end Go.Abs
