/- Several texts of the proof in one: Fz, Fg, Fh, Fy, Fi, Fj, Fk, Fl, Fm, Fn, Fo. No condition. -/
import Derived.Test.YtckoolpjphhfdaaKa
import Derived.Laws.MakeOwn
import Derived.Maps.RangeRun
import Derived.ProofKit
set_option linter.unusedSimpArgs false
set_option linter.unusedVariables false
-- part Fz
namespace Go.Abs
open Go Go.RowKit

def fz0 (st : St) (id : Nat) : AV → AV
  | .ref i k => if i = id ∧ k = st.ver id then
      match st.h id with
      | .arr _ sz xs => .lst sz xs
      | .map es clk => .mapv es clk
      | _ => .ref i k
    else .ref i k
  | .osl i k lo hi f => if i = id ∧ k = st.ver id then
      match st.h id with
      | .arr _ sz xs => if lo ≤ hi ∧ hi ≤ xs.length then .lst sz ((xs.drop lo).take (hi - lo)) else .osl i k lo hi f
      | _ => .osl i k lo hi f
    else .osl i k lo hi f
  | .rptr i k n j => if i = id ∧ k = st.ver id then
      match st.h id with
      | .box cs => if n = 0 then .eptr cs j else .rptr i k n j
      | .arr _ _ xs => match xs[n]? with
        | some x => .eptr x.cells j
        | none => .rptr i k n j
      | _ => .rptr i k n j
    else .rptr i k n j
  | p => p
def fz (st : St) (id : Nat) : AV → AV
  | .fn f first captured => .fn f (first.map (fz0 st id)) (captured.map (fz0 st id))
  | .agg cs => .agg (cs.map (fz0 st id))
  | p => fz0 st id p
def fzB (st : St) (id : Nat) : Blk → Blk
  | .box cs => .box (cs.map (fz st id))
  | b => b
/-- Own block 'id' is written no more. -/
def St.freeze (st : St) (id : Nat) : St := { σ := fun j => fz st id (st.σ j), ver := st.ver, h := fun j => if j = id then .none else fzB st id (st.h j) }
def St.freezes : List Nat → St → St
  | [], st => st
  | id :: l, st => St.freezes l (st.freeze id)
theorem freeze_σ (st : St) (id j : Nat) : (st.freeze id).σ j = fz st id (st.σ j) := rfl
theorem freeze_ver (st : St) (id : Nat) : (st.freeze id).ver = st.ver := rfl
theorem freeze_h (st : St) (id j : Nat) : (st.freeze id).h j = if j = id then .none else fzB st id (st.h j) := rfl

section
variable {G : Ctx} {st : St} {E : Env} {a : Act}

def Env.fz (E : Env) (st : St) (id : Nat) : Env := { E with S := fun b => E.S b ∨ (st.h id).at (E.own id) = some b }
theorem Env.le_fz (E : Env) (st : St) (id : Nat) : E.Le (E.fz st id) := ⟨fun _ h => .inl h, fun _ _ => rfl, fun _ => Nat.le_refl _, fun _ _ => rfl⟩

theorem fz0_sound (hr : Rel G st E a) {id : Nat} {p : AV} {x : Value} (h : VR E p x) : VR (E.fz st id) (fz0 st id p) x := by
  have hm := h.mono (E.le_fz st id)
  unfold fz0
  split
  · rename_i i k
    split
    case isFalse => exact hm
    rename_i hk
    obtain ⟨rfl, hk⟩ := hk
    split
    · rename_i e sz xs hh
      cases h with
      | ref _ _ _ h1 h2 =>
        rw [h2 (by rw [hr.ver]; exact hk)]
        have hb := hr.blocks i
        rw [hh] at hb
        obtain ⟨hsz, us, hown, hlen, hvs, hblk⟩ := hb
        rcases hown.2 with ⟨hv, hn⟩ | ⟨g, cap, cur, hv, hg, hheap, hn, hc, hcs, ht⟩
        · have hx : xs = [] := List.eq_nil_of_length_eq_zero hn
          subst hx
          rw [hv]; exact .lstNil _
        · have hSg : (E.fz st i).S g := .inr (by rw [hh]; simp [Blk.at, hv, Value.ownBlock])
          rw [hv]
          have hul : us.length = xs.length * sz := hown.1
          refine .lst sz xs g 0 cap (fun k => us.getD k undef) hSg hn hc (fun k hk => ?_) (fun i x hi => hlen x (List.mem_of_getElem? hi)) fun i x j c hi hj => ?_
          · have := hown.cells (g := g) (by rw [hv]; rfl) k _ (List.getElem?_eq_getElem (by omega))
            rw [add_none] at this
            have e : us.getD k undef = us[k]'(by omega) := by simp [List.getD, hul, hk]
            show E.w.cell? _ = _
            rw [this, e]
          · have hjl : j < sz := by rw [← hlen x (List.mem_of_getElem? hi)]; exact (List.getElem?_eq_some_iff.1 hj).1
            have hg := flat_get xs i x j hlen hi hjl
            rw [hj] at hg
            have hi' : i < xs.length := (List.getElem?_eq_some_iff.1 hi).1
            have hmul : i * sz + sz ≤ xs.length * sz := by rw [← Nat.succ_mul]; exact Nat.mul_le_mul_right _ hi'
            have hlt : i * sz + j < us.length := by omega
            have e : us.getD (i * sz + j) undef = us[i * sz + j] := by simp [List.getD, hlt]
            rw [e]
            exact (hvs.2 _ c _ hg (List.getElem?_eq_getElem hlt)).mono (E.le_fz st _)
    · rename_i es clk hh
      cases h with
      | ref _ _ _ h1 h2 =>
        rw [h2 (by rw [hr.ver]; exact hk)]
        have hb := hr.blocks i
        rw [hh] at hb
        obtain ⟨g1, g2, g3, g4⟩ := hb
        rw [g2]
        exact .mapv es clk _ (.inr (by rw [hh]; rfl)) g1
    · exact hm
  · rename_i i k lo hi f
    split
    case isFalse => exact hm
    rename_i hk
    obtain ⟨rfl, hk⟩ := hk
    split
    · rename_i e sz xs hh
      split
      case isFalse => exact hm
      rename_i hlh
      obtain ⟨hlh, hhx⟩ := hlh
      cases h with
      | osl _ _ _ _ _ _ h1 h2 =>
        rw [h2 (by rw [hr.ver]; exact hk)]
        have hb := hr.blocks i
        rw [hh] at hb
        obtain ⟨hsz, us, hown, hlen, hvs, hblk⟩ := hb
        have hl : ((xs.drop lo).take (hi - lo)).length = hi - lo := by rw [List.length_take, List.length_drop]; omega
        rcases hown.2 with ⟨hv, hn⟩ | ⟨g, cap, cur, hv, hg, hheap, hn, hc, hcs, ht⟩
        · have hx : xs = [] := List.eq_nil_of_length_eq_zero hn
          subst hx
          have h0 : hi = 0 := by simpa using hhx
          have h1 : lo = 0 := by omega
          subst h0; subst h1
          rw [hv, subV_slice]
          have : (if (if f = true then (0 : Nat) else 0) = 0 then (none : Option Addr) else Option.map (fun x : Addr => x.add (0 * (E.own i).sz)) none) = none := by split <;> rfl
          rw [this]
          have : (if f = true then (0 : Nat) else 0) - 0 = 0 := by cases f <;> rfl
          rw [this]
          exact .lstNil _
        · have hSg : (E.fz st i).S g := .inr (by rw [hh]; simp [Blk.at, hv, Value.ownBlock])
          have hcap : (if f = true then hi else cap) - lo ≤ maxLen := by cases f <;> simp <;> omega
          by_cases he : hi = lo
          · have : (xs.drop lo).take (hi - lo) = [] := by rw [he]; simp
            rw [this, hv, subV_slice]
            have h00 : hi - lo = 0 := by omega
            rw [h00]
            generalize (if f = true then hi else cap) = C at hcap ⊢
            by_cases hC : C = lo
            · rw [if_pos hC]; exact .lstNo _ _ _ hcap
            · rw [if_neg hC, Option.map_some]; exact .lstNo _ _ _ hcap
          · have hne : ¬ (if f = true then hi else cap) = lo := by
              intro hc
              cases f <;> simp at hc <;> omega
            rw [hv, subV_slice, if_neg hne, Option.map_some, add_none, Nat.zero_add, hsz]
            have hul : us.length = xs.length * sz := hown.1
            have hm2 : hi * sz ≤ xs.length * sz := Nat.mul_le_mul_right _ hhx
            have hm1 : lo * sz + (hi - lo) * sz = hi * sz := by rw [← Nat.add_mul]; congr 1; omega
            have := VR.lst (E := E.fz st i) sz ((xs.drop lo).take (hi - lo)) g (lo * sz) ((if f = true then hi else cap) - lo) (fun k => us.getD (lo * sz + k) undef) hSg (by rw [hl]; cases f <;> simp <;> omega) hcap (fun k hk => ?_) (fun j x hj => hlen x (List.mem_of_mem_drop (List.mem_of_mem_take (List.mem_of_getElem? hj)))) fun j x q c hj hq => ?_
            · rw [hl] at this; exact this
            · rw [hl] at hk
              have hlt : lo * sz + k < us.length := by omega
              have := hown.cells (g := g) (by rw [hv]; rfl) (lo * sz + k) _ (List.getElem?_eq_getElem hlt)
              rw [add_none, Nat.zero_add] at this
              have e : us.getD (lo * sz + k) undef = us[lo * sz + k]'hlt := by simp [List.getD, hlt]
              show E.w.cell? _ = _
              rw [this, e]
            · have hjl : j < hi - lo := by have := (List.getElem?_eq_some_iff.1 hj).1; rw [hl] at this; exact this
              rw [List.getElem?_take_of_lt hjl, List.getElem?_drop] at hj
              have hql : q < sz := by rw [← hlen x (List.mem_of_getElem? hj)]; exact (List.getElem?_eq_some_iff.1 hq).1
              have hg := flat_get xs (lo + j) x q hlen hj hql
              rw [hq] at hg
              have hmul : (lo + j) * sz + sz ≤ xs.length * sz := by rw [← Nat.succ_mul]; exact Nat.mul_le_mul_right _ (by omega)
              have e2 : lo * sz + (j * sz + q) = (lo + j) * sz + q := by rw [Nat.add_mul]; omega
              have hlt : (lo + j) * sz + q < us.length := by omega
              show VR _ c (us.getD (lo * sz + (j * sz + q)) undef)
              rw [e2]
              have e : us.getD ((lo + j) * sz + q) undef = us[(lo + j) * sz + q] := by simp [List.getD, hlt]
              rw [e]
              exact (hvs.2 _ c _ hg (List.getElem?_eq_getElem hlt)).mono (E.le_fz st _)
    · exact hm
  · rename_i i k n j
    split
    case isFalse => exact hm
    rename_i hk
    obtain ⟨rfl, hk⟩ := hk
    cases h with
    | rptr _ _ _ _ _ h1 h2 =>
      have hx := h2 (by rw [hr.ver]; exact hk)
      subst hx
      have hb := hr.blocks i
      split
      · rename_i cs hh
        rw [hh] at hb
        obtain ⟨us, t, hheap, hb1, hb2, hvs⟩ := hb
        split
        case isFalse => exact hm
        rename_i hi
        subst hi
        have hul : cs.length = us.size := by simpa using hvs.1
        have := VR.eptr (E := E.fz st i) cs j (E.own i).blk 0 (fun k => us.getD k undef) (.inr (by rw [hh]; rfl)) (fun k hk => by
          show E.w.cell? _ = _
          rw [cell_of_row _ _ _ _ _ _ hheap]
          simp [Array.getD_eq_getD_getElem?, show k < us.size from by omega]) (fun k c hc => by
          have hk : k < us.size := by rw [← hul]; exact (List.getElem?_eq_some_iff.1 hc).1
          refine (hvs.2 k c _ hc ?_).mono (E.le_fz st _)
          simp [Array.getD_eq_getD_getElem?, hk])
        simpa using this
      · rename_i e sz xs hh
        rw [hh] at hb
        obtain ⟨hsz, us, hown, hlen, hvs, hblk⟩ := hb
        split
        · rename_i x hxi
          have hi' : n < xs.length := (List.getElem?_eq_some_iff.1 hxi).1
          have hmul : n * sz + sz ≤ xs.length * sz := by rw [← Nat.succ_mul]; exact Nat.mul_le_mul_right _ hi'
          rcases hown.2 with ⟨hv, hn⟩ | ⟨g, cap, cur, hv, hg, hheap, hn, hc, hcs, ht⟩
          · omega
          · have hSg : (E.fz st i).S g := .inr (by rw [hh]; simp [Blk.at, hv, Value.ownBlock])
            have hg1 := (hblk g (by rw [hv]; rfl)).1
            have hul : us.length = xs.length * sz := hown.1
            have hxl := hlen x (List.mem_of_getElem? hxi)
            rw [hsz, hg1]
            exact .eptr x.cells j g (n * sz) (fun k => us.getD (n * sz + k) undef) hSg (fun k hk => by
              have hlt : n * sz + k < us.length := by omega
              have := hown.cells (g := g) (by rw [hv]; rfl) (n * sz + k) _ (List.getElem?_eq_getElem hlt)
              rw [add_none, Nat.zero_add] at this
              show E.w.cell? _ = _
              rw [this]; simp [List.getD, hlt]) fun k c hc' => by
                have hkl : k < sz := by rw [← hxl]; exact (List.getElem?_eq_some_iff.1 hc').1
                have hlt : n * sz + k < us.length := by omega
                have hg := flat_get xs n x k hlen hxi hkl
                rw [hc'] at hg
                have e : us.getD (n * sz + k) undef = us[n * sz + k] := by simp [List.getD, hlt]
                rw [e]
                exact (hvs.2 _ c _ hg (List.getElem?_eq_getElem hlt)).mono (E.le_fz st _)
        · exact hm
      · exact hm
  · exact hm

theorem fz_sound (hr : Rel G st E a) {id : Nat} {p : AV} {x : Value} (h : VR E p x) : VR (E.fz st id) (fz st id p) x := by
  unfold fz
  split
  · rename_i f first captured
    cases h with
    | fn _ _ _ us vs h1 h2 h3 h4 =>
      refine .fn f _ _ us vs (by simpa using h1) (by simpa using h2) (fun i c hc => ?_) fun i c hc => ?_
      · simp only [List.getElem?_map, Option.map_eq_some_iff] at hc
        obtain ⟨c', hc', rfl⟩ := hc
        exact fz0_sound hr (h3 i c' hc')
      · simp only [List.getElem?_map, Option.map_eq_some_iff] at hc
        obtain ⟨c', hc', rfl⟩ := hc
        exact fz0_sound hr (h4 i c' hc')
  · rename_i cs
    cases h with
    | agg _ us h1 h3 =>
      refine .agg _ us (by simpa using h1) (fun i c hc => ?_)
      simp only [List.getElem?_map, Option.map_eq_some_iff] at hc
      obtain ⟨c', hc', rfl⟩ := hc
      exact fz0_sound hr (h3 i c' hc')
  · exact fz0_sound hr h

theorem fzB_at (st : St) (id : Nat) (o : Own) (b : Blk) : (fzB st id b).at o = b.at o := by cases b <;> rfl

theorem Rel.freeze (hr : Rel G st E a) (id : Nat) : Rel G (st.freeze id) (E.fz st id) a := by
  refine ⟨hr.size, hr.defersLe (E.le_fz st id), hr.once, hr.le0Le (E.le_fz st id), hr.ver, hr.below, fun b hb => ?_, fun b hb => .inl (hr.S0 b hb), fun b hb => ?_, fun j => fz_sound hr (hr.slots j), fun j => ?_, fun j j' b hne => ?_⟩
  · rcases hb with hb | hb
    · exact hr.Slt b hb
    · exact ((hr.blocks id).at_lt hb).2.1
  · rcases hb with hb | hb
    · exact hr.Snew b hb
    · exact .inr ((hr.blocks id).at_lt hb).1
  · by_cases hj : j = id
    · simp only [St.freeze, hj, if_true]; trivial
    · simp only [St.freeze, hj, if_false]
      have h0 : BR (E.fz st id) G.w0.heap.size ((E.fz st id).own j) (st.h j) := (hr.blocks j).mono (E.le_fz st id) fun b hb => ⟨rfl, fun hS => by
        rcases hS with hS | hS
        · exact hS
        · exact absurd hS (hr.apart j id b hj hb)⟩
      cases hb : st.h j with
      | none => trivial
      | arr e sz xs => rw [hb] at h0; exact h0
      | map es clk => rw [hb] at h0; exact h0
      | obj x => rw [hb] at h0; exact h0
      | iter es clk done => rw [hb] at h0; exact h0
      | box cs =>
        rw [hb] at h0
        obtain ⟨us, t, h1, h2, h3, h4⟩ := h0
        have hb' := hr.blocks j
        rw [hb] at hb'
        obtain ⟨us', t', g1, g2, g3, g4⟩ := hb'
        have : us' = us := by
          have := g1.symm.trans h1
          simp at this; exact this.1
        subst this
        refine ⟨us', t, h1, h2, h3, by simpa using h4.1, fun i c u hc hu => ?_⟩
        simp only [List.getElem?_map, Option.map_eq_some_iff] at hc
        obtain ⟨c', hc', rfl⟩ := hc
        exact fz_sound hr (g4.2 i c' u hc' hu)
  · simp only [St.freeze]
    show (if j = id then Blk.none else fzB st id (st.h j)).at (E.own j) = some b → (if j' = id then Blk.none else fzB st id (st.h j')).at (E.own j') ≠ some b
    by_cases hj : j = id
    · rw [if_pos hj]; intro h; cases h
    · rw [if_neg hj, fzB_at]
      by_cases hj' : j' = id
      · rw [if_pos hj']; intro _ h; cases h
      · rw [if_neg hj', fzB_at]; exact hr.apart j j' b hne

theorem Rel.freezes : ∀ (ids : List Nat) (st : St) (E : Env), Rel G st E a → ∃ E', E'.w = E.w ∧ Rel G (st.freezes ids) E' a
  | [], _, E, hr => ⟨E, rfl, hr⟩
  | id :: l, st, E, hr => by
    obtain ⟨E', h1, h2⟩ := Rel.freezes l _ _ (hr.freeze id)
    exact ⟨E', h1, h2⟩

theorem AWp.freeze (id : Nat) {c : Code} {Q : Exit → St → Prop} (h : AWp G c Q (st.freeze id)) : AWp G c Q st := fun E a hr => h (E.fz st id) a (hr.freeze id)

/-! ### A nil slice as a list -/

inductive Wk0 : AV → AV → Prop
  | refl (p : AV) : Wk0 p p
  | nil (sz : Nat) : Wk0 (.v (.slice none 0 0)) (.lst sz [])
def WkL0 : List AV → List AV → Prop
  | [], [] => True
  | p :: ps, q :: qs => Wk0 p q ∧ WkL0 ps qs
  | _, _ => False
inductive Wk : AV → AV → Prop
  | one {p q : AV} : Wk0 p q → Wk p q
  | agg {ps qs : List AV} : WkL0 ps qs → Wk (.agg ps) (.agg qs)
  | lst {sz : Nat} {xs ys : List AV} : xs.length = ys.length → (∀ (i : Nat) x y, xs[i]? = some x → ys[i]? = some y → WkL0 x.cells y.cells) → Wk (.lst sz xs) (.lst sz ys)
def WkL : List AV → List AV → Prop
  | [], [] => True
  | p :: ps, q :: qs => Wk p q ∧ WkL ps qs
  | _, _ => False
/-- For results: a nil slice is a new array as well. -/
inductive WkR1 : AV → AV → Prop
  | one {p q : AV} : Wk p q → WkR1 p q
  | fresh (e sz : Nat) : WkR1 (.v (.slice none 0 0)) (.fresh e sz [])
def WkRL : List AV → List AV → Prop
  | [], [] => True
  | p :: ps, q :: qs => WkR1 p q ∧ WkRL ps qs
  | _, _ => False
inductive WkR : AV → AV → Prop
  | one {p q : AV} : WkR1 p q → WkR p q
  | tup {ps qs : List AV} : WkRL ps qs → WkR (.tup ps) (.tup qs)

theorem Wk.refl (p : AV) : Wk p p := .one (.refl p)
theorem Wk.nil (sz : Nat) : Wk (.v (.slice none 0 0)) (.lst sz []) := .one (.nil sz)
theorem WkR1.refl (p : AV) : WkR1 p p := .one (.refl p)
theorem WkR.refl (p : AV) : WkR p p := .one (.refl p)
theorem WkR.nil (sz : Nat) : WkR (.v (.slice none 0 0)) (.lst sz []) := .one (.one (.nil sz))
theorem WkR.fresh (e sz : Nat) : WkR (.v (.slice none 0 0)) (.fresh e sz []) := .one (.fresh e sz)

theorem Wk0.sound {p q : AV} (h : Wk0 p q) {x : Value} (hx : VR E p x) : VR E q x := by
  cases h with
  | refl => exact hx
  | nil sz => rw [hx.v_inv]; exact .lstNil _
theorem WkL0.get : ∀ {ps qs : List AV}, WkL0 ps qs → ps.length = qs.length ∧ ∀ (i : Nat) p q, ps[i]? = some p → qs[i]? = some q → Wk0 p q
  | [], [], _ => ⟨rfl, by simp⟩
  | p :: ps, q :: qs, h => by
    obtain ⟨h1, h2⟩ := WkL0.get h.2
    refine ⟨by simp [h1], fun i p' q' hp hq => ?_⟩
    cases i with
    | zero => simp at hp hq; subst hp; subst hq; exact h.1
    | succ i => exact h2 i p' q' (by simpa using hp) (by simpa using hq)
  | [], _ :: _, h => h.elim
  | _ :: _, [], h => h.elim
theorem Wk.sound {p q : AV} (h : Wk p q) {x : Value} (hx : VR E p x) : VR E q x := by
  cases h with
  | one h => exact h.sound hx
  | agg h =>
    obtain ⟨h1, h2⟩ := h.get
    cases hx with
    | agg _ us hl hc =>
      refine .agg _ us (by rw [← h1]; exact hl) fun i c hi => ?_
      have hlt : i < _ := (List.getElem?_eq_some_iff.1 hi).1
      rw [← h1] at hlt
      have hp := List.getElem?_eq_getElem hlt
      exact (h2 i _ _ hp hi).sound (hc i _ hp)
  | lst hll hel =>
    rename_i sz xs ys
    cases hx with
    | lst _ _ b off cap u hS h1 h2 h3 h4 h5 =>
      have hx : ∀ (i : Nat) y, ys[i]? = some y → ∃ x, xs[i]? = some x ∧ WkL0 x.cells y.cells := fun i y hy => by
        have hi : i < xs.length := by rw [hll]; exact (List.getElem?_eq_some_iff.1 hy).1
        exact ⟨xs[i], List.getElem?_eq_getElem hi, hel i _ y (List.getElem?_eq_getElem hi) hy⟩
      rw [hll]
      refine .lst sz ys b off cap u hS (by omega) h2 (fun k hk => h3 k (by rw [hll]; exact hk)) (fun i y hy => ?_) fun i y j c hy hc => ?_
      · obtain ⟨x, hx, hw⟩ := hx i y hy
        rw [← hw.get.1]; exact h4 i x hx
      · obtain ⟨x, hx, hw⟩ := hx i y hy
        obtain ⟨hl, hg⟩ := hw.get
        have hj : j < x.cells.length := by rw [hl]; exact (List.getElem?_eq_some_iff.1 hc).1
        exact (hg j _ c (List.getElem?_eq_getElem hj) hc).sound (h5 i x j _ hx (List.getElem?_eq_getElem hj))
    | lstNil _ =>
      have : ys = [] := List.eq_nil_of_length_eq_zero (by simpa using hll.symm)
      subst this; exact .lstNil _
    | lstNo _ _ ad hc =>
      have : ys = [] := List.eq_nil_of_length_eq_zero (by simpa using hll.symm)
      subst this; exact .lstNo _ _ _ hc
theorem WkL.get : ∀ {ps qs : List AV}, WkL ps qs → ps.length = qs.length ∧ ∀ (i : Nat) p q, ps[i]? = some p → qs[i]? = some q → Wk p q
  | [], [], _ => ⟨rfl, by simp⟩
  | p :: ps, q :: qs, h => by
    obtain ⟨h1, h2⟩ := WkL.get h.2
    refine ⟨by simp [h1], fun i p' q' hp hq => ?_⟩
    cases i with
    | zero => simp at hp hq; subst hp; subst hq; exact h.1
    | succ i => exact h2 i p' q' (by simpa using hp) (by simpa using hq)
  | [], _ :: _, h => h.elim
  | _ :: _, [], h => h.elim
theorem WkRL.get : ∀ {ps qs : List AV}, WkRL ps qs → ps.length = qs.length ∧ ∀ (i : Nat) p q, ps[i]? = some p → qs[i]? = some q → WkR1 p q
  | [], [], _ => ⟨rfl, by simp⟩
  | p :: ps, q :: qs, h => by
    obtain ⟨h1, h2⟩ := WkRL.get h.2
    refine ⟨by simp [h1], fun i p' q' hp hq => ?_⟩
    cases i with
    | zero => simp at hp hq; subst hp; subst hq; exact h.1
    | succ i => exact h2 i p' q' (by simpa using hp) (by simpa using hq)
  | [], _ :: _, h => h.elim
  | _ :: _, [], h => h.elim

/-! ### How long a list can be -/

theorem VR.lst_len {sz : Nat} {xs : List AV} {x : Value} (h : VR E (.lst sz xs) x) : xs.length ≤ maxLen := by
  cases h with
  | lst _ _ b off cap u _ h1 h2 => omega
  | lstNil => simp
  | lstNo => simp
theorem BR.arr_len {base : Nat} {o : Own} {e sz : Nat} {xs : List AV} (h : BR E base o (.arr e sz xs)) : xs.length ≤ maxLen := by
  obtain ⟨_, us, hown, _⟩ := h
  rcases hown.2 with ⟨_, hn⟩ | ⟨g, cap, cur, hv, hg, hheap, hn, hc, hcs, ht⟩ <;> omega
theorem AWp.bound {c : Code} {Q : Exit → St → Prop} (d : Nat) {sz : Nat} {xs : List AV} (hd : st.σ d = .lst sz xs) (h : xs.length ≤ maxLen → AWp G c Q st) : AWp G c Q st := fun E a hr => by
  have := hr.slots d
  rw [hd] at this
  exact h this.lst_len E a hr
theorem AWp.boundOwn {c : Code} {Q : Exit → St → Prop} (id : Nat) {e sz : Nat} {xs : List AV} (hd : st.h id = .arr e sz xs) (h : xs.length ≤ maxLen → AWp G c Q st) : AWp G c Q st := fun E a hr => by
  have := hr.blocks id
  rw [hd] at this
  exact h this.arr_len E a hr

/-- A variable that holds nil becomes an own array. -/
def St.ownNil (st : St) (id e sz d : Nat) : St := { σ := upd st.σ d (.ref id (st.ver id + 1)), ver := upd st.ver id (st.ver id + 1), h := upd st.h id (.arr e sz []) }
theorem ownNil_σ (st : St) (id e sz d j : Nat) : (st.ownNil id e sz d).σ j = if j = d then .ref id (st.ver id + 1) else st.σ j := rfl
theorem ownNil_ver (st : St) (id e sz d j : Nat) : (st.ownNil id e sz d).ver j = if j = id then st.ver id + 1 else st.ver j := rfl
theorem ownNil_h (st : St) (id e sz d j : Nat) : (st.ownNil id e sz d).h j = if j = id then .arr e sz [] else st.h j := rfl
theorem AWp.ownNil {c : Code} {Q : Exit → St → Prop} (d e sz : Nat) (hd : st.σ d = .v (.slice none 0 0)) (h : AWp G c Q (st.ownNil (G.ids d) e sz d)) : AWp G c Q st := fun E a hr => by
  obtain ⟨E', hw, hr'⟩ := hr.nilOwn e sz (G.ids d) d hd
  have := h E' a hr'
  rw [hw] at this
  exact this

end
end Go.Abs

-- part Fg
namespace Go.Abs
open Go Go.RowKit

def env0 (S : Nat → Prop) (w : World) : Env := ⟨fun _ => 0, fun _ => ⟨undef, 0, 0⟩, S, w⟩

theorem Pure.to0 {E : Env} {p : AV} {x : Value} (hp : Pure p) (h : VR E p x) : VR (env0 E.S E.w) p x := hp _ _ _ _ _ _ _ h
theorem Pure.of0 {E : Env} {p : AV} {x : Value} (hp : Pure p) (h : VR (env0 E.S E.w) p x) : VR E p x := hp _ _ _ _ _ _ _ h

/-- A single result: a new array of the callee's, handed over, or a value. -/
def RR1 (E : Env) (base : Nat) : AV → Value → Prop
  | .fresh e sz xs, x => ∃ us, E.w.ownsRowW base e sz x xs.length us ∧ (∀ c ∈ xs, c.cells.length = sz) ∧ VRs E (xs.flatMap AV.cells) us ∧ (∀ b, x.ownBlock = some b → ¬ E.S b)
  | r, x => VR E r x

def AV.isFresh : AV → Bool
  | .fresh .. => true
  | _ => false

def RR (E : Env) (base : Nat) : AV → Value → Prop
  | .tup rs, x => ∃ us : Array Value, x = .tuple us ∧ rs.length = us.size ∧ (∀ (i : Nat) r, rs[i]? = some r → RR1 E base r (us.getD i undef)) ∧
      (∀ (i j : Nat) r r' b, i ≠ j → rs[i]? = some r → rs[j]? = some r' → r.isFresh = true → r'.isFresh = true → (us.getD i undef).ownBlock = some b → (us.getD j undef).ownBlock ≠ some b)
  | r, x => RR1 E base r x

def PureR1 : AV → Prop
  | .fresh _ _ xs => ∀ x ∈ xs, ∀ c ∈ x.cells, Pure c
  | r => Pure r
def PureR : AV → Prop
  | .tup rs => ∀ r ∈ rs, PureR1 r
  | r => PureR1 r
def FlatR1 : AV → Prop
  | .fresh _ _ xs => ∀ x ∈ xs, ∀ c ∈ x.cells, Flat c
  | r => Flat r
def FlatR : AV → Prop
  | .tup rs => ∀ r ∈ rs, FlatR1 r
  | r => FlatR1 r

/-- 'Called with these, the function hands back this, and leaves all memory that was there as it was.' -/
structure AC (P : Program) (f : FuncId) (args : List AV) (r : AV) : Prop where
  fn : ∃ fn, P.funcs[f]? = some fn ∧ fn.body.isSome = true ∧ (fn.name == "runtime.NumGoroutine") = false
  pargs : ∀ p ∈ args, Pure p
  pres : PureR r
  run : ∀ (S : Nat → Prop) (w : World) (vs : Array Value), (∀ b, S b → b < w.heap.size) → vs.size = args.length → (∀ (i : Nat) p, args[i]? = some p → VR (env0 S w) p (vs.getD i undef)) →
    Calls P f vs w fun e w' => ∃ v S', e = .returned v ∧ Below w.heap.size w w' ∧ (∀ b, S b → S' b) ∧ (∀ b, S' b → S b ∨ w.heap.size ≤ b) ∧ (∀ b, S' b → b < w'.heap.size) ∧ RR (env0 S' w') w.heap.size r v

/-! ### The end of a body -/

def resAV (P : Program) (st : St) : ResultVar → Option AV
  | .tmp t => some (st.σ t)
  | .cell t ty => ldAV P st ty (st.σ t)

/-- An own array that is handed back. -/
def outAV (st : St) : AV → Option AV
  | .ref id k => if k = st.ver id then
      match st.h id with
      | .arr e sz xs => some (.fresh e sz xs)
      | _ => none
    else none
  | .rptr .. => none
  | .fresh .. => none
  | p => some p

def refId : AV → Option Nat
  | .ref id _ => some id
  | _ => none

/-- What a body hands back, by the variables of its results. -/
def resultAV (P : Program) (st : St) (rvs : List ResultVar) : Option AV :=
  match rvs with
  | [v] => (resAV P st v).bind fun r => match r with | .tup _ => none | r => outAV st r
  | vs => (vs.mapM (resAV P st)).bind fun rs => if (rs.filterMap refId).Nodup then (rs.mapM (outAV st)).map .tup else none

def resSem (tmps : Array Value) : ResultVar → Sem Value
  | .tmp t => pure (tmps.getD t undef)
  | .cell a t => do loadVar t (← asAddr (tmps.getD a undef))
theorem results_eq (fn : Func) (tmps : Array Value) : results fn tmps = (do let vs ← fn.results.mapM (resSem tmps); pure (if h : vs.size = 1 then vs[0] else .tuple vs)) := by
  rfl

section
variable {G : Ctx} {st : St} {E : Env} {a : Act}

theorem run_resAV (hr : Rel G st E a) {v : ResultVar} {r : AV} (h : resAV G.P st v = some r) :
    ∃ x, (resSem a.tmps v).run G.P E.w = .ok x E.w ∧ VR E r x := by
  cases v with
  | tmp t => cases h; exact ⟨_, rfl, hr.slots t⟩
  | cell p t =>
    obtain ⟨z, h1, h2⟩ := ldAV_sound hr (hr.slots p) h
    refine ⟨z, ?_, h2⟩
    cases hp : a.tmps.getD p undef with
    | pointer ad =>
      rw [hp] at h1
      cases ad with
      | none => simp [Instr.loadAt, Instr.sureAddr, stuck, Sem.run] at h1
      | some ad =>
        simp only [Instr.loadAt, Instr.sureAddr, Sem.run_bind, Sem.run_pure, Result.andThen_ok] at h1
        simp only [resSem, hp, asAddr, Sem.run_bind, Sem.run_pure, Result.andThen_ok]
        exact h1
    | _ => rw [hp] at h1; simp [Instr.loadAt, Instr.sureAddr, stuck, Sem.run] at h1

theorem outAV_sound (hr : Rel G st E a) {p r : AV} {x : Value} (hx : VR E p x) (h : outAV st p = some r) : RR1 E G.w0.heap.size r x ∧ (r.isFresh = true → ∃ id k, p = .ref id k ∧ x = (E.own id).val ∧ (st.h id).at (E.own id) = x.ownBlock) := by
  unfold outAV at h
  split at h
  · rename_i id k
    split at h
    case isFalse => cases h
    rename_i hk
    split at h
    · rename_i e sz xs hh
      cases h
      cases hx with
      | ref _ _ _ h1 h2 =>
        have hx := h2 (by rw [hr.ver]; exact hk)
        subst hx
        have hb := hr.blocks id
        rw [hh] at hb
        obtain ⟨hsz, us, hown, hlen, hvs, hblk⟩ := hb
        exact ⟨⟨us, hown, hlen, hvs, fun b hb => (hblk b hb).2⟩, fun _ => ⟨id, k, rfl, rfl, by rw [hh]; rfl⟩⟩
    · cases h
  · cases h
  · cases h
  · rename_i h1 h2 h3
    have he : p = r := by simpa using h
    subst he
    cases p with
    | ref id k => exact (h1 id k rfl).elim
    | rptr _ _ _ _ => exact (h2 _ _ _ _ rfl).elim
    | fresh _ _ _ => exact (h3 _ _ _ rfl).elim
    | _ => exact ⟨hx, fun h => by cases h⟩

end

theorem RR1.to0 {E : Env} {base : Nat} {r : AV} {x : Value} (hp : PureR1 r) (h : RR1 E base r x) : RR1 (env0 E.S E.w) base r x := by
  cases r with
  | fresh e sz xs =>
    obtain ⟨us, h1, h2, h3, h4⟩ := h
    refine ⟨us, h1, h2, ⟨h3.1, fun i c u hc hu => Pure.to0 ?_ (h3.2 i c u hc hu)⟩, h4⟩
    obtain ⟨y, hy, hm⟩ := List.mem_flatMap.1 (List.mem_of_getElem? hc)
    exact hp y hy c hm
  | _ => exact Pure.to0 hp h

theorem RR1.isFresh_false {E : Env} {base : Nat} {r : AV} {x : Value} (h : RR1 E base r x) (hf : r.isFresh = false) : VR E r x := by
  cases r with
  | fresh _ _ _ => cases hf
  | _ => exact h

def argAt : List AV → Nat → AV
  | [], _ => .junk
  | p :: _, 0 => p
  | _ :: l, n + 1 => argAt l n
theorem argAt_eq : ∀ (l : List AV) (j : Nat), argAt l j = l.getD j .junk
  | [], _ => rfl
  | _ :: _, 0 => rfl
  | _ :: l, n + 1 => by simpa [argAt] using argAt_eq l n
def startSt (args : List AV) : St := ⟨argAt args, fun _ => 0, fun _ => .none⟩

/-- What a body must come to. -/
def PostR (P : Program) (rvs : List ResultVar) (r : AV) : Exit → St → Prop
  | .normal, st | .ret, st => ∃ ids r0, resultAV P (st.freezes ids) rvs = some r0 ∧ WkR r0 r
  | _, _ => False

theorem run_results {G : Ctx} {st : St} {E : Env} {a : Act} (hr : Rel G st E a) (fn : Func) (r : AV) (h : resultAV G.P st fn.results.toList = some r) : ∃ x, (results fn a.tmps).run G.P E.w = .ok x E.w ∧ RR E G.w0.heap.size r x := by
  have hmap : ∀ (vs : List ResultVar) (rs : List AV), vs.mapM (resAV G.P st) = some rs →
      ∃ xs : List Value, (vs.mapM (resSem a.tmps)).run G.P E.w = .ok xs E.w ∧ rs.length = xs.length ∧
        ∀ (i : Nat) r x, rs[i]? = some r → xs[i]? = some x → VR E r x := by
    intro vs
    induction vs with
    | nil => intro rs h; simp at h; subst h; exact ⟨[], by simp, rfl, by simp⟩
    | cons v vs ih =>
      intro rs h
      simp only [List.mapM_cons, Option.bind_eq_bind, Option.bind_eq_some_iff, Option.pure_def, Option.some.injEq] at h
      obtain ⟨r0, hr0, rs', hrs', rfl⟩ := h
      obtain ⟨x, hx1, hx2⟩ := run_resAV hr hr0
      obtain ⟨xs, hxs1, hxs2, hxs3⟩ := ih rs' hrs'
      refine ⟨x :: xs, ?_, by simp [hxs2], fun i r y hri hy => ?_⟩
      · rw [List.mapM_cons, Sem.run_bind, hx1]
        simp only [Result.andThen_ok, Sem.run_bind, hxs1, Sem.run_pure]
      · cases i with
        | zero => simp at hri hy; subst hri; subst hy; exact hx2
        | succ i => exact hxs3 i r y (by simpa using hri) (by simpa using hy)
  unfold resultAV at h
  rw [results_eq]
  have hres : ∀ (f : ResultVar → Sem Value), (fn.results.mapM f).run G.P E.w = ((fn.results.toList.mapM f).run G.P E.w).andThen fun l w => .ok l.toArray w := by
    intro f
    rw [Array.mapM_eq_mapM_toList, Sem.run_map]
  split at h
  · rename_i v hv
    obtain ⟨p, hp, ho⟩ := Option.bind_eq_some_iff.1 h
    obtain ⟨x, hx1, hx2⟩ := run_resAV hr hp
    refine ⟨x, ?_, ?_⟩
    · rw [Sem.run_bind, hres, hv, List.mapM_cons, List.mapM_nil]
      simp only [Sem.run_bind, Sem.run_pure, Result.andThen_ok]
      rw [hx1]
      rfl
    · cases p with
      | tup _ => cases ho
      | _ => (have h2 := (outAV_sound hr hx2 ho).1; cases r <;> first | exact h2 | (simp [outAV] at ho; done) | (simp only [outAV] at ho; split at ho <;> first | (cases ho; done) | (split at ho <;> cases ho)))
  · obtain ⟨ps, hps, ho⟩ := Option.bind_eq_some_iff.1 h
    split at ho
    case isFalse => cases ho
    rename_i hnd
    obtain ⟨rs, hrs, rfl⟩ := Option.map_eq_some_iff.1 ho
    obtain ⟨xs, hxs1, hxs2, hxs3⟩ := hmap _ ps hps
    have hone : xs.length ≠ 1 := by
      rename_i hvs
      intro h1
      have hpl : ps.length = fn.results.toList.length := by
        have : ∀ (l : List ResultVar) (q : List AV), l.mapM (resAV G.P st) = some q → q.length = l.length := by
          intro l
          induction l with
          | nil => intro q h; simp at h; subst h; rfl
          | cons v l ih =>
            intro q h
            simp only [List.mapM_cons, Option.bind_eq_bind, Option.bind_eq_some_iff, Option.pure_def, Option.some.injEq] at h
            obtain ⟨_, _, q', hq', rfl⟩ := h
            simp [ih q' hq']
        exact this _ _ hps
      have : fn.results.toList.length = 1 := by omega
      obtain ⟨v, hv⟩ := List.length_eq_one_iff.1 this
      exact hvs v hv
    have hout : ∀ (qs ss : List AV), qs.mapM (outAV st) = some ss → ss.length = qs.length ∧ ∀ (i : Nat) q, qs[i]? = some q → ∃ s, ss[i]? = some s ∧ outAV st q = some s := by
      intro qs
      induction qs with
      | nil => intro ss h; simp at h; subst h; exact ⟨rfl, by simp⟩
      | cons q qs ih =>
        intro ss h
        simp only [List.mapM_cons, Option.bind_eq_bind, Option.bind_eq_some_iff, Option.pure_def, Option.some.injEq] at h
        obtain ⟨s, hs, ss', hss', rfl⟩ := h
        obtain ⟨h1, h2⟩ := ih ss' hss'
        refine ⟨by simp [h1], fun i q' hq' => ?_⟩
        cases i with
        | zero => simp at hq'; subst hq'; exact ⟨s, rfl, hs⟩
        | succ i => obtain ⟨s', hs', ho'⟩ := h2 i q' (by simpa using hq'); exact ⟨s', by simpa using hs', ho'⟩
    obtain ⟨hsl, hsi⟩ := hout ps rs hrs
    have get : ∀ (i : Nat) r, rs[i]? = some r → ∃ q x, ps[i]? = some q ∧ xs[i]? = some x ∧ outAV st q = some r ∧ VR E q x := by
      intro i r hri
      have hi : i < ps.length := by rw [← hsl]; exact (List.getElem?_eq_some_iff.1 hri).1
      have hq := List.getElem?_eq_getElem hi
      have hx := List.getElem?_eq_getElem (l := xs) (i := i) (by omega)
      obtain ⟨s, hs, ho⟩ := hsi i _ hq
      rw [hri] at hs; cases hs
      exact ⟨_, _, hq, hx, ho, hxs3 i _ _ hq hx⟩
    refine ⟨.tuple xs.toArray, ?_, xs.toArray, rfl, by simp [hsl, hxs2], fun i r hri => ?_, fun i j r r' b hij hri hrj hf hf' hb => ?_⟩
    · rw [Sem.run_bind, hres, hxs1]
      simp only [Result.andThen_ok, Sem.run_pure]
      rw [dif_neg (by simpa using hone)]
    · obtain ⟨q, x, hq, hx, ho, hv⟩ := get i r hri
      have : (xs.toArray.getD i undef) = x := by simp [Array.getD_eq_getD_getElem?, hx]
      rw [this]; exact (outAV_sound hr hv ho).1
    · obtain ⟨q, x, hq, hx, ho, hv⟩ := get i r hri
      obtain ⟨q', x', hq', hx', ho', hv'⟩ := get j r' hrj
      obtain ⟨id, k, hid, hxi, hat⟩ := (outAV_sound hr hv ho).2 hf
      obtain ⟨id', k', hid', hxi', hat'⟩ := (outAV_sound hr hv' ho').2 hf'
      have e1 : (xs.toArray.getD i undef) = x := by simp [Array.getD_eq_getD_getElem?, hx]
      have e2 : (xs.toArray.getD j undef) = x' := by simp [Array.getD_eq_getD_getElem?, hx']
      rw [e1] at hb; rw [e2]
      rw [← hat]  at hb
      rw [← hat']
      refine hr.apart id id' b ?_ hb
      intro he
      subst he
      -- the two slots would hold one array
      have key : ∀ (l : List AV) (i j : Nat) (p p' : AV) (n : Nat), (l.filterMap refId).Nodup → i < j → l[i]? = some p → l[j]? = some p' → refId p = some n → refId p' = some n → False := by
        intro l
        induction l with
        | nil => intro i j p p' n _ _ h; simp at h
        | cons y l ih =>
          intro i j p p' n hnd hlt hp hp' hn hn'
          cases j with
          | zero => omega
          | succ j =>
            cases i with
            | zero =>
              simp at hp; subst hp
              simp only [List.filterMap_cons, hn, List.nodup_cons] at hnd
              exact hnd.1 (List.mem_filterMap.2 ⟨p', List.mem_of_getElem? (by simpa using hp'), hn'⟩)
            | succ i =>
              refine ih i j p p' n ?_ (by omega) (by simpa using hp) (by simpa using hp') hn hn'
              rw [List.filterMap_cons] at hnd
              split at hnd
              · exact hnd
              · exact (List.nodup_cons.1 hnd).2
      rcases Nat.lt_or_gt_of_ne hij with h | h
      · exact key ps i j q q' id hnd h hq hq' (by rw [hid]; rfl) (by rw [hid']; rfl)
      · exact key ps j i q' q id hnd h hq' hq (by rw [hid']; rfl) (by rw [hid]; rfl)

theorem RR.to0 {E : Env} {base : Nat} {r : AV} {x : Value} (hp : PureR r) (h : RR E base r x) : RR (env0 E.S E.w) base r x := by
  by_cases ht : ∃ rs, r = .tup rs
  · obtain ⟨rs, rfl⟩ := ht
    obtain ⟨us, h1, h2, h3, h4⟩ := h
    exact ⟨us, h1, h2, fun i r hi => RR1.to0 (hp r (List.mem_of_getElem? hi)) (h3 i r hi), h4⟩
  · have e1 : ∀ E, RR E base r x = RR1 E base r x := fun E => by cases r <;> first | rfl | exact absurd ⟨_, rfl⟩ ht
    have e2 : PureR r = PureR1 r := by cases r <;> first | rfl | exact absurd ⟨_, rfl⟩ ht
    rw [e1] at h ⊢
    rw [e2] at hp
    exact RR1.to0 hp h

theorem WkR1.sound {E : Env} {base : Nat} {p q : AV} (h : WkR1 p q) {x : Value} (hx : RR1 E base p x) : RR1 E base q x ∧ (q.isFresh = true → p = q ∨ x.ownBlock = none) := by
  cases h with
  | fresh e sz =>
    have hx : VR E _ x := hx
    rw [hx.v_inv]
    exact ⟨⟨[], ⟨by simp, .inl ⟨rfl, rfl⟩⟩, by simp, ⟨rfl, by simp⟩, fun b hb => by simp [Value.ownBlock] at hb⟩, fun _ => .inr rfl⟩
  | one h =>
    by_cases he : p = q
    · subst he; exact ⟨hx, fun _ => .inl rfl⟩
    · cases h with
      | one h =>
        cases h with
        | refl => exact absurd rfl he
        | nil sz => exact ⟨Wk0.sound (.nil sz) (show VR E _ x from hx), fun h => by cases h⟩
      | agg h => exact ⟨Wk.sound (.agg h) (show VR E _ x from hx), fun h => by cases h⟩
      | lst h k => exact ⟨Wk.sound (.lst h k) (show VR E _ x from hx), fun h => by cases h⟩

theorem WkR.sound {E : Env} {base : Nat} {p q : AV} (h : WkR p q) {x : Value} (hx : RR E base p x) : RR E base q x := by
  cases h with
  | one h =>
    by_cases he : p = q
    · subst he; exact hx
    · cases h with
      | fresh e sz => exact (WkR1.sound (.fresh e sz) (show RR1 E base _ x from hx)).1
      | one h =>
        cases h with
        | one h =>
          cases h with
          | refl => exact absurd rfl he
          | nil sz => exact Wk0.sound (.nil sz) (show VR E _ x from hx)
        | agg h => exact Wk.sound (.agg h) (show VR E _ x from hx)
        | lst h k => exact Wk.sound (.lst h k) (show VR E _ x from hx)
  | @tup ps qs h =>
    obtain ⟨h1, h2⟩ := h.get
    obtain ⟨us, rfl, g1, g2, g3⟩ := hx
    have hp : ∀ (i : Nat) q, qs[i]? = some q → ∃ p, ps[i]? = some p ∧ WkR1 p q := fun i q hi => by
      have hlt : i < ps.length := by rw [h1]; exact (List.getElem?_eq_some_iff.1 hi).1
      exact ⟨_, List.getElem?_eq_getElem hlt, h2 i _ _ (List.getElem?_eq_getElem hlt) hi⟩
    refine ⟨us, rfl, by rw [← h1]; exact g1, fun i q hi => ?_, fun i j q q' b hij hi hj hf hf' hb => ?_⟩
    · obtain ⟨p, hpi, hw⟩ := hp i q hi
      exact (hw.sound (g2 i p hpi)).1
    · obtain ⟨p, hpi, hw⟩ := hp i q hi
      obtain ⟨p', hpj, hw'⟩ := hp j q' hj
      rcases (hw.sound (g2 i p hpi)).2 hf with rfl | h
      · rcases (hw'.sound (g2 j p' hpj)).2 hf' with rfl | h
        · exact g3 i j p p' b hij hpi hpj hf hf' hb
        · rw [h]; intro h'; cases h'
      · rw [h] at hb; cases hb

theorem PostR.ret {P : Program} {rvs : List ResultVar} {r : AV} {st : St} (h : resultAV P st rvs = some r) : PostR P rvs r .ret st := ⟨[], r, h, .refl r⟩
theorem PostR.normal {P : Program} {rvs : List ResultVar} {r : AV} {st : St} (h : resultAV P st rvs = some r) : PostR P rvs r .normal st := ⟨[], r, h, .refl r⟩
theorem PostR.retW (ids : List Nat) {P : Program} {rvs : List ResultVar} {r r0 : AV} {st : St} (h : resultAV P (st.freezes ids) rvs = some r0) (hw : WkR r0 r) : PostR P rvs r .ret st := ⟨ids, r0, h, hw⟩

/-! ### The deferred marks of loops over functions -/

/-- What an environment says, when a block that is neither cells nor a map turns. -/
theorem VR.turn {E : Env} {w' : World} (hc : ∀ b o v, E.S b → E.w.cell? ⟨b, o, none⟩ = some v → w'.cell? ⟨b, o, none⟩ = some v) (hm : ∀ b es clk, E.S b → E.w.heap[b]? = some (.map es clk) → w'.heap[b]? = some (.map es clk)) {p : AV} {x : Value} (h : VR E p x) : VR { E with w := w' } p x := by
  induction h with
  | junk x => exact .junk x
  | v x => exact .v x
  | agg cs us hl _ ih => exact .agg cs us hl ih
  | tup cs us hl _ ih => exact .tup cs us hl ih
  | lst sz xs b off cap u hS h1 h2 h3 h4 _ ih => exact .lst sz xs b off cap u hS h1 h2 (fun k hk => hc _ _ _ hS (h3 k hk)) h4 ih
  | lstNil sz => exact .lstNil sz
  | lstNo sz cap ad h => exact .lstNo sz cap ad h
  | eptr cs j b off u hS h1 _ ih => exact .eptr cs j b off u hS (fun k hk => hc _ _ _ hS (h1 k hk)) ih
  | ref id k x h1 h2 => exact .ref id k x h1 h2
  | rptr id k i j x h1 h2 => exact .rptr id k i j x h1 h2
  | fn f first captured us vs h1 h2 _ _ ih1 ih2 => exact .fn f first captured us vs h1 h2 ih1 ih2
  | mapv es clk b hS h1 => exact .mapv es clk b hS (hm _ _ _ hS h1)
  | full sz xs ad _ ih => exact .full sz xs ad ih
  | osl id k lo hi full x h1 h2 => exact .osl id k lo hi full x h1 h2

theorem VRs.turn {E : Env} {w' : World} (hc : ∀ b o v, E.S b → E.w.cell? ⟨b, o, none⟩ = some v → w'.cell? ⟨b, o, none⟩ = some v) (hm : ∀ b es clk, E.S b → E.w.heap[b]? = some (.map es clk) → w'.heap[b]? = some (.map es clk)) {ps : List AV} {xs : List Value} (h : VRs E ps xs) : VRs { E with w := w' } ps xs :=
  ⟨h.1, fun i a u ha hu => (h.2 i a u ha hu).turn hc hm⟩

theorem BR.turn {E : Env} {w' : World} {base : Nat} {o : Own} {blk : Blk} (hc : ∀ b o v, E.S b → E.w.cell? ⟨b, o, none⟩ = some v → w'.cell? ⟨b, o, none⟩ = some v) (hm : ∀ b es clk, E.S b → E.w.heap[b]? = some (.map es clk) → w'.heap[b]? = some (.map es clk))
    (hb : ∀ b, blk.at o = some b → w'.heap[b]? = E.w.heap[b]?) (h : BR E base o blk) : BR { E with w := w' } base o blk := by
  cases blk with
  | none => trivial
  | arr e sz xs =>
    obtain ⟨h1, us, hown, hlen, hvs, hblk⟩ := h
    refine ⟨h1, us, ?_, hlen, hvs.turn hc hm, hblk⟩
    refine ⟨hown.1, ?_⟩
    rcases hown.2 with hn | ⟨g, cap, cur, hv, hg, hh, r⟩
    · exact .inl hn
    · exact .inr ⟨g, cap, cur, hv, hg, by show w'.heap[g]? = _; rw [hb g (by simp [Blk.at, hv, Value.ownBlock])]; exact hh, r⟩
  | box cs =>
    obtain ⟨us, t, hh, h1, h2, h3⟩ := h
    exact ⟨us, t, by show w'.heap[o.blk]? = _; rw [hb o.blk rfl]; exact hh, h1, h2, h3.turn hc hm⟩
  | map es clk =>
    obtain ⟨hh, h1, h2, h3⟩ := h
    exact ⟨by show w'.heap[o.blk]? = _; rw [hb o.blk rfl]; exact hh, h1, h2, h3⟩
  | obj x =>
    obtain ⟨hh, h2, h3⟩ := h
    exact ⟨by show w'.heap[o.blk]? = _; rw [hb o.blk rfl]; exact hh, h2, h3⟩
  | iter es clk done =>
    obtain ⟨b, hS, hm', hh, h⟩ := h
    exact ⟨b, hS, hm b es clk hS hm', by show w'.heap[o.blk]? = _; rw [hb o.blk rfl]; exact hh, h⟩

theorem below_putObj {B : Nat} {a w : World} (h : Below B a w) {r : Nat} (hr : B ≤ r) (o : Obj) : Below B a (w.putObj r o) :=
  ⟨h.os, h.tape, h.output, by rw [World.putObj_size]; exact h.size, fun k hk => by rw [World.putObj_heap_other (by omega)]; exact h.block k hk⟩

/-- A mark is met: its block is shut. -/
theorem Rel.shutMark {G : Ctx} {st : St} {E : Env} {a : Act} (hr : Rel G st E a) {d : Deferred} {ds : List Deferred} (hd : a.defers = d :: ds) :
    ∃ r, d = ⟨.collected r, #[]⟩ ∧ E.w.heap[r]? = some (.deferred (some [])) ∧ Rel G st { E with w := E.w.putObj r (.deferred none) } { a with defers := ds } := by
  obtain ⟨r, h1, h2, h3, h4, h5⟩ := hr.defers d (by rw [hd]; simp)
  have hc : ∀ b o v, E.S b → E.w.cell? ⟨b, o, none⟩ = some v → (E.w.putObj r (.deferred none)).cell? ⟨b, o, none⟩ = some v := fun b o v _ hv => by
    by_cases hb : b = r
    · subst hb; simp [World.cell?, h4] at hv
    · rw [World.cell?_of_block (w := E.w) (by exact World.putObj_heap_other hb)]; exact hv
  have hm : ∀ b es clk, E.S b → E.w.heap[b]? = some (.map es clk) → (E.w.putObj r (.deferred none)).heap[b]? = some (.map es clk) := fun b es clk _ hv => by
    by_cases hb : b = r
    · subst hb; rw [h4] at hv; cases hv
    · rw [World.putObj_heap_other hb]; exact hv
  have hon := hr.once
  rw [hd, List.pairwise_cons] at hon
  refine ⟨r, h1, h4, hr.size, fun d' hd' => ?_, hon.2, fun E0 he => ?_, hr.ver, below_putObj hr.below h3 _, fun b hb => by rw [World.putObj_size]; exact hr.Slt b hb, hr.S0, hr.Snew, fun j => (hr.slots j).turn hc hm, fun id => (hr.blocks id).turn hc hm fun b hb => ?_, hr.apart⟩
  · obtain ⟨r', g1, g2, g3, g4, g5⟩ := hr.defers d' (by rw [hd]; exact .tail _ hd')
    refine ⟨r', g1, g2, g3, ?_, g5⟩
    have hne : r' ≠ r := fun he => hon.1 d' hd' (by rw [h1, g1, he])
    show (E.w.putObj r (.deferred none)).heap[r']? = _
    rw [World.putObj_heap_other hne]; exact g4
  · have h0 := hr.le0 E0 he
    exact ⟨h0.S, fun b hb => by
      show (E.w.putObj r (.deferred none)).heap[b]? = _
      have hne : b ≠ r := fun hbr => h5 E0 he (by rw [← hbr]; exact hb)
      rw [World.putObj_heap_other hne]; exact h0.heap b hb, h0.ver, h0.own⟩
  · have hne : b ≠ r := fun he => ((hr.blocks id).at_lt hb).2.2 (he ▸ h2)
    exact World.putObj_heap_other hne

theorem leaves_marks {G : Ctx} {st : St} {fn : Func} {R : Ending → World → Prop} : ∀ (ds : List Deferred) {E : Env} {a : Act}, a.defers = ds → Rel G st E a →
    (∀ E', Rel G st E' { a with defers := [] } → ∃ v, (results fn a.tmps).run G.P E'.w = .ok v E'.w ∧ R (.returned v) E'.w) → LeavesInM Fence.wide 0 G.P fn a.tmps R ds .returning E.w
  | [], E, a, hd, hr, h => by
    obtain ⟨tm, df⟩ := a
    simp only at hd
    subst hd
    exact h E hr
  | d :: ds, E, a, hd, hr, h => by
    obtain ⟨r, h1, h2, h3⟩ := hr.shutMark hd
    refine ⟨by simp, .inl ⟨r, E.w.putObj r (.deferred none), by rw [h1], run_takeDeferred h2, ?_⟩⟩
    exact leaves_marks ds (a := { a with defers := ds }) rfl h3 h

/-- A function's contract, off its body. -/
theorem AC.of_body {P : Program} {f : FuncId} {fn : Func} {c : Code} {args : List AV} {r : AV} {n : Nat} {rvs : List ResultVar} (hf : P.funcs[f]? = some fn) (hb : fn.body = some c) (hname : (fn.name == "runtime.NumGoroutine") = false) (hnt : fn.ntmps = n) (hrv : fn.results.toList = rvs) (hn : args.length ≤ n)
    (hargs : ∀ p ∈ args, Pure p) (hr : PureR r) (h : ∀ (w : World) (S : Nat → Prop), AWp ⟨P, w, S, n, none, fun d => d, none⟩ c (PostR P rvs r) (startSt args)) : AC P f args r := by
  subst hnt; subst hrv
  refine ⟨⟨fn, hf, by rw [hb]; rfl, hname⟩, hargs, hr, fun S w vs hS hl hv => ?_⟩
  let a : Act := { tmps := vs ++ Array.replicate (fn.ntmps - vs.size) undef, defers := [] }
  have hrel : Rel ⟨P, w, S, fn.ntmps, none, fun d => d, none⟩ (startSt args) (env0 S w) a := by
    refine ⟨by simp [a]; omega, fun d hd => (by simp [a] at hd), List.Pairwise.nil, fun E0 h => (by cases h), rfl, Below.refl _ _, hS, fun _ h => h, fun _ h => .inl h, fun j => ?_, fun _ => trivial, fun id id' b _ hb => by cases hb⟩
    simp only [startSt, argAt_eq]
    by_cases hj : j < args.length
    · have e : a.tmps.getD j undef = vs.getD j undef := by
        have hj' : j < vs.size := by omega
        simp [a, Array.getD_eq_getD_getElem?, Array.getElem?_append, hj']
      rw [e]
      have := hv j args[j] (List.getElem?_eq_getElem hj)
      simpa [List.getD, hj] using this
    · have : args.getD j .junk = .junk := by simp [List.getD, List.getElem?_eq_none (Nat.le_of_not_lt hj)]
      rw [this]; exact .junk _
  rw [← callsIn_wide (n := 0)]
  refine callsIn_of_wp_marks hf hb trivial (wpIn_mono (h w S _ a hrel) ?_)
  rintro e a' w' ⟨st', E', rfl, h2, h3⟩
  have fin : (∃ ids r0, resultAV P (st'.freezes ids) fn.results.toList = some r0 ∧ WkR r0 r) → LeavesInM Fence.wide 0 P fn a'.tmps (fun e w' => ∃ v S', e = .returned v ∧ Below w.heap.size w w' ∧ (∀ b, S b → S' b) ∧ (∀ b, S' b → S b ∨ w.heap.size ≤ b) ∧ (∀ b, S' b → b < w'.heap.size) ∧ RR (env0 S' w') w.heap.size r v) a'.defers .returning E'.w := by
    rintro ⟨ids, r0, hr0, hw⟩
    obtain ⟨E2, hE, h2⟩ := h2.freezes ids
    rw [← hE]
    refine leaves_marks _ rfl h2 fun E3 h3 => ?_
    obtain ⟨x, hx1, hx2⟩ := run_results h3 fn r0 hr0
    exact ⟨x, hx1, x, E3.S, rfl, h3.below, h3.S0, h3.Snew, h3.Slt, RR.to0 hr (hw.sound hx2)⟩
  cases e with
  | normal => exact fin h3
  | ret => exact fin h3
  | exit id => exact h3.elim
  | goto l => exact h3.elim
  | panic c => exact h3.elim
  | outgrown => exact h3.elim

end Go.Abs

-- part Fh
namespace Go.Abs
open Go Go.RowKit

def compId (d i : Nat) : Nat := d + 1000 * (i + 1)

def St.takeComps (d : Nat) : Nat → List AV → St → St × List AV
  | _, [], st => (st, [])
  | i, .fresh e sz xs :: rs, st =>
    let st' := st.setArr (compId d i) e sz xs
    let y := St.takeComps d (i + 1) rs st'
    (y.1, .ref (compId d i) (st.ver (compId d i) + 1) :: y.2)
  | i, r :: rs, st =>
    let y := St.takeComps d (i + 1) rs st
    (y.1, r :: y.2)

/-- What a call hands over: new arrays become own ones. -/
def St.take (d : Nat) (r : AV) (st : St) : St × AV :=
  match r with
  | .fresh e sz xs => (st.setArr d e sz xs, .ref d (st.ver d + 1))
  | .tup rs => let y := St.takeComps d 0 rs st; (y.1, .tup y.2)
  | r => (st, r)

section
variable {G : Ctx} {st : St} {E : Env} {a : Act}

theorem Rel.adopt (hr : Rel G st E a) {id e sz : Nat} {xs : List AV} {v : Value} {us : List Value} {B : Nat} (hB : G.w0.heap.size ≤ B) (hown : E.w.ownsRowW B e sz v xs.length us) (hlen : ∀ x ∈ xs, x.cells.length = sz) (hvs : VRs E (xs.flatMap AV.cells) us)
    (hS : ∀ b, v.ownBlock = some b → ¬ E.S b) (hat : ∀ b, v.ownBlock = some b → ∀ j, (st.h j).at (E.own j) ≠ some b) :
    ∃ E', E'.w = E.w ∧ E'.S = E.S ∧ E.Le E' ∧ (∀ j, j ≠ id → E'.own j = E.own j) ∧ (E'.own id).val = v ∧ Rel G (st.setArr id e sz xs) E' a ∧ VR E' (.ref id (st.ver id + 1)) v := by
  let o : Own := ⟨v, (v.ownBlock).getD 0, sz⟩
  have hve : E.ver id = st.ver id := by rw [hr.ver]
  have hle : E.Le { E with ver := upd E.ver id (st.ver id + 1), own := upd E.own id o } :=
    ⟨fun _ h => h, fun _ _ => rfl, fun j => by by_cases h : j = id <;> simp [upd, h, hve], fun j hj => by
      by_cases h : j = id
      · subst h; simp [upd, hve] at hj
      · simp [upd, h]⟩
  refine ⟨{ E with ver := upd E.ver id (st.ver id + 1), own := upd E.own id o }, rfl, rfl, hle, fun j hj => by simp [upd, hj], by simp [upd, o], ?_, .ref _ _ _ (by simp [upd]) fun _ => by simp [upd, o]⟩
  refine hr.own0 id (.arr e sz xs) o (st.ver id + 1) rfl (by omega) rfl (fun h => by omega) rfl hr.below (Nat.le_refl _) (fun _ _ _ => rfl) ?_ fun b hb j hj => hat b hb j
  exact ⟨rfl, us, ownsRow_base hown hB, hlen, hvs.mono hle, fun b hb => ⟨by simp only [o] at hb ⊢; rw [hb]; rfl, hS b hb⟩⟩

/-- Behind a call: the world, and what it handed over in it. -/
theorem Rel.afterCall (hr : Rel G st E a) {w' : World} {S' : Nat → Prop} (hb : Below E.w.heap.size E.w w') (h1 : ∀ b, E.S b → S' b) (h2 : ∀ b, S' b → E.S b ∨ E.w.heap.size ≤ b) (h3 : ∀ b, S' b → b < w'.heap.size) :
    Rel G st { E with S := S', w := w' } a ∧ E.Le { E with S := S', w := w' } := by
  have hle : E.Le { E with S := S', w := w' } := ⟨h1, fun b hS => hb.block b (hr.Slt b hS), fun _ => Nat.le_refl _, fun _ _ => rfl⟩
  exact ⟨hr.later hle rfl (hr.below.trans (hb.mono hr.below.size)) h3 h2 fun b hb' => hb.block b hb', hle⟩

theorem take_comps {B : Nat} (hB : G.w0.heap.size ≤ B) : ∀ (rs : List AV) (i d : Nat) (st : St) (E : Env) (us : List Value), Rel G st E a → rs.length = us.length → (∀ r ∈ rs, PureR1 r) →
    (∀ (k : Nat) r u, rs[k]? = some r → us[k]? = some u → RR1 (env0 E.S E.w) B r u) →
    (∀ (j k : Nat) r r' u u' b, j ≠ k → rs[j]? = some r → rs[k]? = some r' → us[j]? = some u → us[k]? = some u' → r.isFresh = true → r'.isFresh = true → u.ownBlock = some b → u'.ownBlock ≠ some b) →
    (∀ (k : Nat) r u b, rs[k]? = some r → us[k]? = some u → r.isFresh = true → u.ownBlock = some b → ∀ j, (st.h j).at (E.own j) ≠ some b) →
    ∃ E', E'.w = E.w ∧ E.Le E' ∧ Rel G (St.takeComps d i rs st).1 E' a ∧ (St.takeComps d i rs st).2.length = us.length ∧ (∀ (k : Nat) r u, (St.takeComps d i rs st).2[k]? = some r → us[k]? = some u → VR E' r u) ∧
      (∀ j, (∀ k, j ≠ compId d (i + k)) → E'.own j = E.own j ∧ E'.ver j = E.ver j)
  | [], i, d, st, E, us, hr, hl, _, _, _, _ => ⟨E, rfl, .refl E, hr, by simpa [St.takeComps] using hl, by simp [St.takeComps], fun _ _ => ⟨rfl, rfl⟩⟩
  | r :: rs, i, d, st, E, [], _, hl, _, _, _, _ => by simp at hl
  | r :: rs, i, d, st, E, u :: us, hr, hl, hp, hrr, hd, hat => by
    have h0 := hrr 0 r u rfl rfl
    have hl' : rs.length = us.length := by simpa using hl
    by_cases hf : ∃ e sz xs, r = .fresh e sz xs
    · obtain ⟨e, sz, xs, rfl⟩ := hf
      obtain ⟨vs, g1, g2, g3, g4⟩ := h0
      have g3' : VRs E (xs.flatMap AV.cells) vs := ⟨g3.1, fun k c v hc hv => by
        obtain ⟨y, hy, hm⟩ := List.mem_flatMap.1 (List.mem_of_getElem? hc)
        exact (hp (.fresh e sz xs) (by simp) y hy c hm).of0 (g3.2 k c v hc hv)⟩
      obtain ⟨E1, hw, hS, hle, hkeep, hval, hrel, hv⟩ := hr.adopt (id := compId d i) hB g1 g2 g3' g4 fun b hb => hat 0 _ u b rfl rfl rfl hb
      obtain ⟨E2, hw2, hle2, hrel2, hlen2, hvr2, hkeep2⟩ := take_comps hB rs (i + 1) d (st.setArr (compId d i) e sz xs) E1 us hrel hl' (fun r hr => hp r (by simp [hr]))
        (fun k r u hk hu => by rw [hS, hw]; exact hrr (k + 1) r u (by simpa using hk) (by simpa using hu))
        (fun j k r r' u u' b hjk hj hk hu hu' hf hf' hb => hd (j + 1) (k + 1) r r' u u' b (by omega) (by simpa using hj) (by simpa using hk) (by simpa using hu) (by simpa using hu') hf hf' hb)
        (fun k r u' b hk hu hf hb j => by
          by_cases hj : j = compId d i
          · subst hj
            simp only [St.setArr, upd, if_true, Blk.at, hval]
            intro hb'
            exact hd 0 (k + 1) _ r u u' b (by omega) rfl (by simpa using hk) rfl (by simpa using hu) rfl hf hb' hb
          · simp only [St.setArr, upd, hj, if_false]
            rw [hkeep j hj]
            exact hat (k + 1) r u' b (by simpa using hk) (by simpa using hu) hf hb j)
      have hnot : ∀ k, compId d i ≠ compId d (i + 1 + k) := fun k => by simp [compId]; omega
      have hver1 : ∀ j, j ≠ compId d i → E1.ver j = E.ver j := fun j hj => by rw [hrel.ver, hr.ver]; simp [St.setArr, upd, hj]
      refine ⟨E2, by rw [hw2, hw], hle.trans hle2, hrel2, by simp [St.takeComps, hlen2], fun k r' u' hk hu' => ?_, fun j hj => ?_⟩
      · cases k with
        | zero => simp [St.takeComps] at hk hu'; subst hk; subst hu'; exact hv.mono hle2
        | succ k => exact hvr2 k r' u' (by simpa [St.takeComps] using hk) (by simpa using hu')
      · have h1 := hkeep2 j fun k => by have := hj (k + 1); rwa [show i + (k + 1) = i + 1 + k from by omega] at this
        have h2 : j ≠ compId d i := by simpa using hj 0
        exact ⟨h1.1.trans (hkeep j h2), h1.2.trans (hver1 j h2)⟩
    · have htk : St.takeComps d i (r :: rs) st = ((St.takeComps d (i + 1) rs st).1, r :: (St.takeComps d (i + 1) rs st).2) := by
        cases r <;> first | rfl | exact absurd ⟨_, _, _, rfl⟩ hf
      have hnf : r.isFresh = false := by cases r <;> first | rfl | exact absurd ⟨_, _, _, rfl⟩ hf
      have hpr : Pure r := by have := hp r (by simp); cases r <;> first | exact this | exact absurd ⟨_, _, _, rfl⟩ hf
      obtain ⟨E2, hw2, hle2, hrel2, hlen2, hvr2, hkeep2⟩ := take_comps hB rs (i + 1) d st E us hr hl' (fun r hr => hp r (by simp [hr]))
        (fun k r u hk hu => hrr (k + 1) r u (by simpa using hk) (by simpa using hu))
        (fun j k r r' u u' b hjk hj hk hu hu' hf hf' hb => hd (j + 1) (k + 1) r r' u u' b (by omega) (by simpa using hj) (by simpa using hk) (by simpa using hu) (by simpa using hu') hf hf' hb)
        (fun k r u' b hk hu hf hb j => hat (k + 1) r u' b (by simpa using hk) (by simpa using hu) hf hb j)
      rw [htk]
      refine ⟨E2, hw2, hle2, hrel2, by simp [hlen2], fun k r' u' hk hu' => ?_, fun j hj => ?_⟩
      · cases k with
        | zero => simp at hk hu'; subst hk; subst hu'; exact (hpr.of0 (h0.isFresh_false hnf)).mono hle2
        | succ k => exact hvr2 k r' u' (by simpa using hk) (by simpa using hu')
      · exact hkeep2 j fun k => by have := hj (k + 1); rwa [show i + (k + 1) = i + 1 + k from by omega] at this

/-- What a call hands over, in the walk's own state. -/
theorem Rel.take (hr : Rel G st E a) {r : AV} {v : Value} {B : Nat} (hB : G.w0.heap.size ≤ B) (hp : PureR r) (hrr : RR (env0 E.S E.w) B r v) (hold : ∀ j b, (st.h j).at (E.own j) = some b → b < B) (d : Nat) :
    ∃ E', E'.w = E.w ∧ E.Le E' ∧ Rel G (St.take d r st).1 E' a ∧ VR E' (St.take d r st).2 v := by
  by_cases hf : ∃ e sz xs, r = .fresh e sz xs
  · obtain ⟨e, sz, xs, rfl⟩ := hf
    obtain ⟨vs, g1, g2, g3, g4⟩ := hrr
    have g3' : VRs E (xs.flatMap AV.cells) vs := ⟨g3.1, fun k c v hc hv => by
      obtain ⟨y, hy, hm⟩ := List.mem_flatMap.1 (List.mem_of_getElem? hc)
      exact (hp y hy c hm).of0 (g3.2 k c v hc hv)⟩
    obtain ⟨E1, hw, hS, hle, hkeep, hval, hrel, hv⟩ := hr.adopt (id := d) hB g1 g2 g3' g4 fun b hb j hj => by
      have h1 := hold j b hj
      have h2 := (g1.lt b hb).1
      omega
    exact ⟨E1, hw, hle, hrel, hv⟩
  · by_cases ht : ∃ rs, r = .tup rs
    · obtain ⟨rs, rfl⟩ := ht
      obtain ⟨us, rfl, hl, h1, h2⟩ := hrr
      have hget : ∀ (k : Nat) u, us.toList[k]? = some u → us.getD k undef = u := fun k u hu => by
        rw [Array.getElem?_toList] at hu; simp [Array.getD_eq_getD_getElem?, hu]
      obtain ⟨E', hw, hle, hrel, hlen, hvr, _⟩ := take_comps (G := G) (a := a) hB rs 0 d st E us.toList hr (by simpa using hl) hp (fun k r u hk hu => by rw [← hget k u hu]; exact h1 k r hk)
        (fun j k r r' u u' b hjk hj hk hu hu' hf hf' hb => by rw [← hget j u hu] at hb; rw [← hget k u' hu']; exact h2 j k r r' b hjk hj hk hf hf' hb)
        (fun k r u b hk hu hf hb j hj => by
          have h3 := hold j b hj
          have h4 := h1 k r hk
          rw [hget k u hu] at h4
          cases r <;> first | cases hf | skip
          obtain ⟨vs, g1, _⟩ := h4
          have := (g1.lt b hb).1
          omega)
      refine ⟨E', hw, hle, hrel, .tup _ us (by simpa using hlen) fun i c hi => ?_⟩
      have hi' : i < us.toList.length := by rw [← hlen]; exact (List.getElem?_eq_some_iff.1 hi).1
      have := hvr i c _ hi (List.getElem?_eq_getElem hi')
      rwa [← hget i _ (List.getElem?_eq_getElem hi')] at this
    · have hk : St.take d r st = (st, r) := by cases r <;> first | rfl | exact absurd ⟨_, _, _, rfl⟩ hf | exact absurd ⟨_, rfl⟩ ht
      have hpr : Pure r := by cases r <;> first | exact hp | exact absurd ⟨_, _, _, rfl⟩ hf | exact absurd ⟨_, rfl⟩ ht
      have hv : VR (env0 E.S E.w) r v := by cases r <;> first | exact hrr | exact absurd ⟨_, _, _, rfl⟩ hf | exact absurd ⟨_, rfl⟩ ht
      rw [hk]
      exact ⟨E, rfl, .refl E, hr, hpr.of0 hv⟩

/-! ### Own memory lent to a callee -/

def borrow0 (st : St) : AV → AV
  | .ref id k => if k = st.ver id then
      match st.h id with
      | .arr _ sz xs => .lst sz xs
      | .map es clk => .mapv es clk
      | _ => .junk
    else .junk
  | p => p
def borrow1 (st : St) : AV → AV
  | .rptr id k i j => if k = st.ver id then
      match st.h id with
      | .box cs => if i = 0 then .eptr (cs.map (borrow0 st)) j else .junk
      | .arr _ _ xs => match xs[i]? with
        | some x => .eptr x.cells j
        | none => .junk
      | _ => .junk
    else .junk
  | p => borrow0 st p
def borrow (st : St) : AV → AV
  | .fn f first captured => .fn f (first.map (borrow1 st)) (captured.map (borrow1 st))
  | p => borrow1 st p

def Env.all (E : Env) : Env := { E with S := fun b => b < E.w.heap.size }
theorem Rel.le_all (hr : Rel G st E a) : E.Le E.all := ⟨fun b h => hr.Slt b h, fun _ _ => rfl, fun _ => Nat.le_refl _, fun _ _ => rfl⟩

theorem borrow0_sound (hr : Rel G st E a) {p : AV} {x : Value} (h : VR E p x) : VR E.all (borrow0 st p) x := by
  have hm := h.mono hr.le_all
  unfold borrow0
  split
  · rename_i id k
    split
    · rename_i hk
      split
      · rename_i e sz xs hh
        cases h with
        | ref _ _ _ h1 h2 =>
          rw [h2 (by rw [hr.ver]; exact hk)]
          have hb := hr.blocks id
          rw [hh] at hb
          obtain ⟨hsz, us, hown, hlen, hvs, hblk⟩ := hb
          rcases hown.2 with ⟨hv, hn⟩ | ⟨g, cap, cur, hv, hg, hheap, hn, hc, hcs, ht⟩
          · have hx : xs = [] := List.eq_nil_of_length_eq_zero hn
            subst hx
            rw [hv]; exact .lstNil _
          · rw [hv]
            have hul : us.length = xs.length * sz := hown.1
            refine .lst sz xs g 0 cap (fun k => us.getD k undef) (Array.getElem?_eq_some_iff.1 hheap).1 hn hc (fun k hk => ?_) (fun i x hi => hlen x (List.mem_of_getElem? hi)) fun i x j c hi hj => ?_
            · have := hown.cells (g := g) (by rw [hv]; rfl) k _ (List.getElem?_eq_getElem (by omega))
              rw [add_none] at this
              have e : us.getD k undef = us[k]'(by omega) := by simp [List.getD, hul, hk]
              show E.w.cell? _ = _
              rw [this, e]
            · have hjl : j < sz := by rw [← hlen x (List.mem_of_getElem? hi)]; exact (List.getElem?_eq_some_iff.1 hj).1
              have hg := flat_get xs i x j hlen hi hjl
              rw [hj] at hg
              have hi' : i < xs.length := (List.getElem?_eq_some_iff.1 hi).1
              have hmul : i * sz + sz ≤ xs.length * sz := by rw [← Nat.succ_mul]; exact Nat.mul_le_mul_right _ hi'
              have hlt : i * sz + j < us.length := by omega
              have e : us.getD (i * sz + j) undef = us[i * sz + j] := by simp [List.getD, hlt]
              rw [e]
              exact (hvs.2 _ c _ hg (List.getElem?_eq_getElem hlt)).mono hr.le_all
      · rename_i es clk hh
        cases h with
        | ref _ _ _ h1 h2 =>
          rw [h2 (by rw [hr.ver]; exact hk)]
          have hb := hr.blocks id
          rw [hh] at hb
          obtain ⟨g1, g2, g3, g4⟩ := hb
          rw [g2]
          exact .mapv es clk _ (Array.getElem?_eq_some_iff.1 g1).1 g1
      · exact .junk _
    · exact .junk _
  · exact hm

theorem borrow1_sound (hr : Rel G st E a) {p : AV} {x : Value} (h : VR E p x) : VR E.all (borrow1 st p) x := by
  unfold borrow1
  split
  · rename_i id k i j
    split
    · rename_i hk
      cases h with
      | rptr _ _ _ _ _ h1 h2 =>
        have hx := h2 (by rw [hr.ver]; exact hk)
        subst hx
        have hb := hr.blocks id
        split
        · rename_i cs hh
          rw [hh] at hb
          obtain ⟨us, t, hheap, hb1, hb2, hvs⟩ := hb
          split
          · rename_i hi
            subst hi
            have hul : cs.length = us.size := by simpa using hvs.1
            have hlt := (Array.getElem?_eq_some_iff.1 hheap).1
            have := VR.eptr (E := E.all) (cs.map (borrow0 st)) j (E.own id).blk 0 (fun k => us.getD k undef) hlt (fun k hk => by
              simp only [List.length_map] at hk
              show E.w.cell? _ = _
              rw [cell_of_row _ _ _ _ _ _ hheap]
              simp [Array.getD_eq_getD_getElem?, show k < us.size from by omega]) (fun k c hc => by
              simp only [List.getElem?_map, Option.map_eq_some_iff] at hc
              obtain ⟨c', hc', rfl⟩ := hc
              have hk : k < us.size := by rw [← hul]; exact (List.getElem?_eq_some_iff.1 hc').1
              refine borrow0_sound hr (hvs.2 k c' _ hc' ?_)
              simp [Array.getD_eq_getD_getElem?, hk])
            simpa using this
          · exact .junk _
        · rename_i e sz xs hh
          rw [hh] at hb
          obtain ⟨hsz, us, hown, hlen, hvs, hblk⟩ := hb
          split
          · rename_i x hxi
            have hi' : i < xs.length := (List.getElem?_eq_some_iff.1 hxi).1
            have hmul : i * sz + sz ≤ xs.length * sz := by rw [← Nat.succ_mul]; exact Nat.mul_le_mul_right _ hi'
            rcases hown.2 with ⟨hv, hn⟩ | ⟨g, cap, cur, hv, hg, hheap, hn, hc, hcs, ht⟩
            · omega
            · have hg1 := (hblk g (by rw [hv]; rfl)).1
              have hul : us.length = xs.length * sz := hown.1
              have hxl := hlen x (List.mem_of_getElem? hxi)
              rw [hsz, hg1]
              exact .eptr x.cells j g (i * sz) (fun k => us.getD (i * sz + k) undef) (Array.getElem?_eq_some_iff.1 hheap).1 (fun k hk => by
                have hlt : i * sz + k < us.length := by omega
                have := hown.cells (g := g) (by rw [hv]; rfl) (i * sz + k) _ (List.getElem?_eq_getElem hlt)
                rw [add_none, Nat.zero_add] at this
                show E.w.cell? _ = _
                rw [this]; simp [List.getD, hlt]) fun k c hc' => by
                  have hkl : k < sz := by rw [← hxl]; exact (List.getElem?_eq_some_iff.1 hc').1
                  have hlt : i * sz + k < us.length := by omega
                  have hg := flat_get xs i x k hlen hxi hkl
                  rw [hc'] at hg
                  have e : us.getD (i * sz + k) undef = us[i * sz + k] := by simp [List.getD, hlt]
                  rw [e]
                  exact (hvs.2 _ c _ hg (List.getElem?_eq_getElem hlt)).mono hr.le_all
          · exact .junk _
        · exact .junk _
    · exact .junk _
  · exact borrow0_sound hr h

theorem borrow_sound (hr : Rel G st E a) {p : AV} {x : Value} (h : VR E p x) : VR E.all (borrow st p) x := by
  unfold borrow
  split
  · rename_i f first captured
    cases h with
    | fn _ _ _ us vs h1 h2 h3 h4 =>
      refine .fn f _ _ us vs (by simpa using h1) (by simpa using h2) (fun i c hc => ?_) fun i c hc => ?_
      · simp only [List.getElem?_map, Option.map_eq_some_iff] at hc
        obtain ⟨c', hc', rfl⟩ := hc
        exact borrow1_sound hr (h3 i c' hc')
      · simp only [List.getElem?_map, Option.map_eq_some_iff] at hc
        obtain ⟨c', hc', rfl⟩ := hc
        exact borrow1_sound hr (h4 i c' hc')
  · exact borrow1_sound hr h

end
end Go.Abs

-- part Fy
namespace Go.Abs
open Go Go.RowKit

/-- A map with an entry stored. -/
def mput (es : Array MapEntry) (clk : Nat) (n : Int) (v : Value) : Array MapEntry × Nat :=
  match findI n es.toList 0 with
  | some x => (es.modify x.1 fun e => { e with key := .int .i64 n, val := v }, clk)
  | none => (es.push { key := .int .i64 n, val := v, born := clk }, clk + 1)

theorem keyIs_key {n : Int} {e : MapEntry} (h : keyIs n e = true) : e.key = .int .i64 n := by
  unfold keyIs at h
  split at h
  · rename_i a ha
    rw [ha]
    have : n = a := by simpa using h
    rw [this]
  · cases h
theorem findI_some (n : Int) : ∀ (l : List MapEntry) (i : Nat) (x : Nat × Value), findI n l i = some x → ∃ j e, x = (i + j, e.val) ∧ l[j]? = some e ∧ keyIs n e = true ∧ ∀ k e', k < j → l[k]? = some e' → keyIs n e' = false
  | [], i, x, h => by cases h
  | e :: l, i, x, h => by
    unfold findI at h
    split at h
    · rename_i hk
      cases h
      exact ⟨0, e, rfl, rfl, hk, fun k e' hk => by omega⟩
    · rename_i hk
      obtain ⟨j, e', rfl, h1, h2, h3⟩ := findI_some n l (i + 1) x h
      refine ⟨j + 1, e', by rw [Nat.add_assoc, Nat.add_comm 1 j], by simpa using h1, h2, fun k e2 hk2 he2 => ?_⟩
      cases k with
      | zero => simp at he2; subst he2; simpa using hk
      | succ k => exact h3 k e2 (by omega) (by simpa using he2)
theorem findI_none (n : Int) : ∀ (l : List MapEntry) (i : Nat), findI n l i = none ↔ ∀ e ∈ l, keyIs n e = false
  | [], i => by simp [findI]
  | e :: l, i => by
    unfold findI
    cases hk : keyIs n e with
    | true => simp [hk]
    | false => simp [hk, findI_none n l (i + 1)]

def qput (es : Array MapEntry) (clk : Nat) (k : KeyQ) (v : Value) : Array MapEntry × Nat :=
  match findQ k es.toList 0 with
  | some x => (es.modify x.1 fun e => { e with key := k.val, val := v }, clk)
  | none => (es.push { key := k.val, val := v, born := clk }, clk + 1)
theorem bytes_toList {a b : ByteArray} (h : (a.toList == b.toList) = true) : a = b := by
  rw [← beq_toListBytes] at h
  exact (MapKept.bytes_beq a b).1 h
theorem is_key {k : KeyQ} {v : Value} (h : k.is v = true) : v = k.val := by
  cases k with
  | txt s =>
    unfold KeyQ.is at h
    split at h
    · rename_i s' x hs; cases hs; rw [bytes_toList h]; rfl
    · rename_i hs; cases hs
    · cases h
  | two a b =>
    unfold KeyQ.is at h
    split at h
    · rename_i hs; cases hs
    · rename_i a' b' us hs
      cases hs
      split at h
      · rename_i x y hxy
        rw [Bool.and_eq_true] at h
        rw [bytes_toList h.1, bytes_toList h.2]
        unfold KeyQ.val
        congr 1
        rw [← Array.toList_inj]; exact hxy
      · cases h
    · cases h
theorem findQ_some (n : KeyQ) : ∀ (l : List MapEntry) (i : Nat) (x : Nat × Value), findQ n l i = some x → ∃ j e, x = (i + j, e.val) ∧ l[j]? = some e ∧ n.is e.key = true ∧ ∀ k e', k < j → l[k]? = some e' → n.is e'.key = false
  | [], i, x, h => by cases h
  | e :: l, i, x, h => by
    unfold findQ at h
    split at h
    · rename_i hk
      cases h
      exact ⟨0, e, rfl, rfl, hk, fun k e' hk => by omega⟩
    · rename_i hk
      obtain ⟨j, e', rfl, h1, h2, h3⟩ := findQ_some n l (i + 1) x h
      refine ⟨j + 1, e', by rw [Nat.add_assoc, Nat.add_comm 1 j], by simpa using h1, h2, fun k e2 hk2 he2 => ?_⟩
      cases k with
      | zero => simp at he2; subst he2; simpa using hk
      | succ k => exact h3 k e2 (by omega) (by simpa using he2)
theorem findQ_none (n : KeyQ) : ∀ (l : List MapEntry) (i : Nat), findQ n l i = none ↔ ∀ e ∈ l, n.is e.key = false
  | [], i => by simp [findQ]
  | e :: l, i => by
    unfold findQ
    cases hk : n.is e.key with
    | true => simp [hk]
    | false => simp [hk, findQ_none n l (i + 1)]
theorem beq_self_bytes (a : ByteArray) : (a == a) = true := (MapKept.bytes_beq a a).2 rfl
theorem sameBits_Q (k : KeyQ) : Instr.sameBits 10000 k.val k.val = true := by
  rw [show (10000 : Nat) = 9999 + 1 from rfl]
  cases k with
  | txt s => simp [KeyQ.val, Instr.sameBits, beq_self_bytes]
  | two a b => simp [KeyQ.val, Instr.sameBits, beq_self_bytes]
section
variable {G : Ctx} {st : St} {E : Env} {a : Act}
theorem run_mapUpdate_int {P : Program} {t kt et : TypeId} (hm : P.underlying t = some (.map kt et)) (hk : P.underlying kt = some (.int .i64)) {w : World} {r clk : Nat} {es : Array MapEntry} (hb : w.heap[r]? = some (.map es clk)) (hi : intM es = true) (n : Int) (v : Value) :
    (Instr.mapUpdate t (.map (some r)) (.int .i64 n) v).run P w = .ok () (w.putObj r (.map (mput es clk n v).1 (mput es clk n v).2)) := by
  unfold mput
  cases hf : findI n es.toList 0 with
  | none => simp [Instr.mapUpdate, run_underlying hm, MapKept.run_getObj_map hb, run_checkKey_int hk, run_findKey_int hk hi, hf, MapKept.run_setObj_map _ hb, World.putObj]
  | some x =>
    obtain ⟨j, e, rfl, h1, h2, _⟩ := findI_some n _ _ _ hf
    have he : (((es[0 + j]?).map (·.key)).getD (.int .i64 n)) = .int .i64 n := by
      have : es[0 + j]? = some e := by rw [Nat.zero_add, ← Array.getElem?_toList]; exact h1
      rw [this]; exact keyIs_key h2
    simp only [Nat.zero_add] at he
    simp [Instr.mapUpdate, run_underlying hm, MapKept.run_getObj_map hb, run_checkKey_int hk, run_findKey_int hk hi, hf, he, MapKept.run_keyThatStays (d := .int .i64) (k := .int .i64 n) (by trivial), MapKept.run_setObj_map _ hb, World.putObj]

theorem run_mapUpdate_Q {P : Program} {t kt et : TypeId} (hm : P.underlying t = some (.map kt et)) {k : KeyQ} (hk : k.okT P kt = true) {w : World} {r clk : Nat} {es : Array MapEntry} (hb : w.heap[r]? = some (.map es clk)) (hi : qM es k = true) (v : Value) :
    (Instr.mapUpdate t (.map (some r)) k.val v).run P w = .ok () (w.putObj r (.map (qput es clk k v).1 (qput es clk k v).2)) := by
  unfold qput
  cases hf : findQ k es.toList 0 with
  | none => simp [Instr.mapUpdate, run_underlying hm, MapKept.run_getObj_map hb, run_checkKey_Q hk, run_findKey_Q hk hi, hf, MapKept.run_setObj_map _ hb, World.putObj]
  | some x =>
    obtain ⟨j, e, rfl, h1, h2, _⟩ := findQ_some k _ _ _ hf
    have he : (((es[0 + j]?).map (·.key)).getD k.val) = k.val := by
      have : es[0 + j]? = some e := by rw [Nat.zero_add, ← Array.getElem?_toList]; exact h1
      rw [this]; exact is_key h2
    simp only [Nat.zero_add] at he
    have hst : (Instr.keyThatStays k.val k.val).run P w = .ok k.val w := by simp [Instr.keyThatStays, sameBits_Q]
    simp [Instr.mapUpdate, run_underlying hm, MapKept.run_getObj_map hb, run_checkKey_Q hk, run_findKey_Q hk hi, hf, he, hst, MapKept.run_setObj_map _ hb, World.putObj]

def St.setMap (st : St) (id : Nat) (es : Array MapEntry) (clk : Nat) : St := { st with ver := upd st.ver id (st.ver id + 1), h := upd st.h id (.map es clk) }

/-- A new map of the walk's own. -/
theorem Rel.mapOwn (hr : Rel G st E a) (id : Nat) :
    ∃ E', E'.w = E.w.alloc (.map #[] 0) ∧ Rel G (st.setMap id #[] 0) E' a ∧ VR E' (.ref id (st.ver id + 1)) (.map (some E.w.heap.size)) := by
  refine ⟨{ ver := upd E.ver id (st.ver id + 1), own := upd E.own id ⟨.map (some E.w.heap.size), E.w.heap.size, 0⟩, S := E.S, w := E.w.alloc (.map #[] 0) }, rfl, ?_, ?_⟩
  · have hve : E.ver id = st.ver id := by rw [hr.ver]
    refine hr.own id (.map #[] 0) ⟨.map (some E.w.heap.size), E.w.heap.size, 0⟩ (st.ver id + 1) rfl (by omega) rfl (fun h => by omega) rfl (hr.below.alloc hr.below.size _) (by simp) (fun b hb _ => heap_alloc_lt _ _ b hb) ?_ ?_
    · exact ⟨heap_alloc_new _ _, rfl, hr.below.size, fun h => absurd (hr.Slt _ h) (by simp)⟩
    · intro b hb; simp only [Blk.at, Option.some.injEq] at hb; subst hb; exact .inr (Nat.le_refl _)
  · exact .ref _ _ _ (by simp [upd]) fun _ => by simp [upd]
/-- The entries of an own map turn. -/
theorem Rel.mapSet (hr : Rel G st E a) {id clk : Nat} {es : Array MapEntry} (hh : st.h id = .map es clk) (es' : Array MapEntry) (clk' : Nat) : Rel G { st with h := upd st.h id (.map es' clk') } { E with w := E.w.putObj (E.own id).blk (.map es' clk') } a := by
  have hb := hr.blocks id
  rw [hh] at hb
  obtain ⟨h1, h4, h2, h3⟩ := hb
  have hlt := (Array.getElem?_eq_some_iff.1 h1).1
  have hr' := hr.own (E' := { E with w := E.w.putObj (E.own id).blk (.map es' clk') }) id (.map es' clk') (E.own id) (E.ver id) (by funext j; by_cases h : j = id <;> simp [upd, h]) (Nat.le_refl _) (by funext j; by_cases h : j = id <;> simp [upd, h]) (fun _ => rfl) rfl
    (below_putObj hr.below h2 _) (by rw [World.putObj_size]; exact Nat.le_refl _) (fun b hb hne => World.putObj_heap_other (fun he => hne (by rw [hh, he]; rfl))) ⟨World.putObj_heap_same hlt, h4, h2, h3⟩ (fun b hb => .inl (by rw [hh]; exact hb))
  have he : upd st.ver id (E.ver id) = st.ver := by funext j; by_cases h : j = id <;> simp [upd, h, hr.ver]
  rw [he] at hr'
  exact hr'
end
end Go.Abs

-- part Fi
namespace Go.Abs
open Go Go.RowKit

def St.setBox (st : St) (id : Nat) (cs : List AV) : St := { st with ver := upd st.ver id (st.ver id + 1), h := upd st.h id (.box cs) }

section simps
variable (st : St) (d j : Nat) (r : AV) (id e sz : Nat) (xs cs : List AV)
theorem put_σ : (st.put (some d) r).σ j = if j = d then r else st.σ j := rfl
theorem put_ver : (st.put (some d) r).ver = st.ver := rfl
theorem put_h : (st.put (some d) r).h = st.h := rfl
theorem put_none : st.put none r = st := rfl
theorem setArr_σ : (st.setArr id e sz xs).σ = st.σ := rfl
theorem setArr_ver : (st.setArr id e sz xs).ver j = if j = id then st.ver id + 1 else st.ver j := rfl
theorem setArr_h : (st.setArr id e sz xs).h j = if j = id then .arr e sz xs else st.h j := rfl
theorem setBox_σ : (st.setBox id cs).σ = st.σ := rfl
theorem setBox_ver : (st.setBox id cs).ver j = if j = id then st.ver id + 1 else st.ver j := rfl
theorem setBox_h : (st.setBox id cs).h j = if j = id then .box cs else st.h j := rfl
theorem setMap_σ (es : Array MapEntry) (clk : Nat) : (st.setMap id es clk).σ = st.σ := rfl
theorem setMap_ver (es : Array MapEntry) (clk : Nat) : (st.setMap id es clk).ver j = if j = id then st.ver id + 1 else st.ver j := rfl
theorem setMap_h (es : Array MapEntry) (clk : Nat) : (st.setMap id es clk).h j = if j = id then .map es clk else st.h j := rfl
def St.setH (st : St) (id : Nat) (b : Blk) : St := { st with h := upd st.h id b }
theorem setH_σ (b : Blk) : (st.setH id b).σ = st.σ := rfl
theorem setH_ver (b : Blk) : (st.setH id b).ver = st.ver := rfl
theorem setH_h (b : Blk) : (st.setH id b).h j = if j = id then b else st.h j := rfl
theorem start_σ (args : List AV) : (startSt args).σ j = argAt args j := rfl
theorem start_ver (args : List AV) : (startSt args).ver j = 0 := rfl
theorem start_h (args : List AV) : (startSt args).h j = .none := rfl
end simps

/-- A call: whatever justifies it. 'rest': what is still to be walked. -/
def CallSem (G : Ctx) (g : FuncId) (args : List AV) (dst : Option Tmp) (K : St → Prop) (st : St) : Prop :=
  (∃ fn, G.P.funcs[g]? = some fn ∧ fn.body.isSome = true ∧ (fn.name == "runtime.NumGoroutine") = false) ∧
  ∀ E a (vs : Array Value), Rel G st E a → vs.size = args.length → (∀ (i : Nat) p, args[i]? = some p → VR E p (vs.getD i undef)) →
    Calls G.P g vs E.w fun e w' => ∃ v, e = .returned v ∧ ∃ st' E', E'.w = w' ∧ Rel G st' E' (a.put dst v) ∧ K st'

/-- A call of yield. -/
def YieldSem (G : Ctx) (l : Nat) (args : List AV) (dst : Option Tmp) (K : St → Prop) (st : St) : Prop :=
  ∀ E a (vs : Array Value), Rel G st E a → vs.size = args.length → (∀ (i : Nat) p, args[i]? = some p → VR E p (vs.getD i undef)) →
    ∃ f tmps assign body, (Instr.yield l vs).run G.P E.w = .ok (.round l f tmps assign body) E.w ∧
      RoundIn G.F 0 G.P l f tmps assign body E.w fun e w' => ∃ v, e = .returned v ∧ ∃ st' E', E'.w = w' ∧ Rel G st' E' (a.put dst v) ∧ K st'

/-- The elements of a list whose value may be nil or not. -/
def nilSrc (st : St) : AV → Option (List AV)
  | .lst _ xs => some xs
  | .ref id k => if k = st.ver id then
      match st.h id with
      | .arr _ _ xs => some xs
      | _ => none
    else none
  | _ => none

theorem nilSrc_of_bin {P : Program} {st : St} {op : BinOp} {t : TypeId} {p q r : AV} (h : binAV P op t p q = some r) : nilSrc st p = none := by
  cases p <;> first | rfl | (simp [binAV] at h)

/-! What the walk goes on with is looked into only when the value ahead of it is known. -/
def bindP {α : Type} (o : Option α) (K : α → Prop) : Prop := ∃ a, o = some a ∧ K a
theorem bindP_some {α : Type} (a : α) (K : α → Prop) : bindP (some a) K = K a := by simp [bindP]
theorem bindP_none {α : Type} (K : α → Prop) : bindP none K = False := by simp [bindP]
@[congr] theorem bindP_congr {α : Type} {o o' : Option α} {K : α → Prop} (h : o = o') : bindP o K = bindP o' K := by rw [h]
def onBool (p : AV) (K : Bool → Prop) : Prop := ∃ b, p = .v (.bool b) ∧ K b
theorem onBool_v (b : Bool) (K : Bool → Prop) : onBool (.v (.bool b)) K = K b := by simp [onBool]
@[congr] theorem onBool_congr {p p' : AV} {K : Bool → Prop} (h : p = p') : onBool p K = onBool p' K := by rw [h]
def onFn (p : AV) (K : FuncId → List AV → List AV → Prop) : Prop := ∃ g first captured, p = .fn (.func g) first captured ∧ K g first captured
theorem onFn_v (g : FuncId) (first captured : List AV) (K : FuncId → List AV → List AV → Prop) : onFn (.fn (.func g) first captured) K = K g first captured := propext ⟨fun ⟨_, _, _, he, h⟩ => by cases he; exact h, fun h => ⟨_, _, _, rfl, h⟩⟩
@[congr] theorem onFn_congr {p p' : AV} {K : FuncId → List AV → List AV → Prop} (h : p = p') : onFn p K = onFn p' K := by rw [h]
def onFn2 (p : AV) (K : FuncId → List AV → List AV → Prop) (Y : Nat → Prop) : Prop := onFn p K ∨ ∃ l, p = .v (.func (.yield l) #[] #[]) ∧ Y l
theorem onFn2_v (g : FuncId) (first captured : List AV) (K : FuncId → List AV → List AV → Prop) (Y : Nat → Prop) : onFn2 (.fn (.func g) first captured) K Y = K g first captured := by
  unfold onFn2
  rw [onFn_v]
  exact propext ⟨fun h => h.elim id fun ⟨_, he, _⟩ => (by cases he), .inl⟩
theorem onFn2_y (l : Nat) (K : FuncId → List AV → List AV → Prop) (Y : Nat → Prop) : onFn2 (.v (.func (.yield l) #[] #[])) K Y = Y l := by
  unfold onFn2 onFn
  exact propext ⟨fun h => h.elim (fun ⟨_, _, _, he, _⟩ => (by cases he)) (fun ⟨_, he, hy⟩ => (by cases he; exact hy)), fun h => .inr ⟨l, rfl, h⟩⟩
@[congr] theorem onFn2_congr {p p' : AV} {K : FuncId → List AV → List AV → Prop} {Y : Nat → Prop} (h : p = p') : onFn2 p K Y = onFn2 p' K Y := by rw [h]
def onNil (o : Option (List AV)) (A : List AV → Prop) (B : Prop) : Prop := (∃ xs, o = some xs ∧ A xs) ∨ (o = none ∧ B)
theorem onNil_some (xs : List AV) (A : List AV → Prop) (B : Prop) : onNil (some xs) A B = A xs := by simp [onNil]
theorem onNil_none (A : List AV → Prop) (B : Prop) : onNil none A B = B := by simp [onNil]
@[congr] theorem onNil_congr {o o' : Option (List AV)} {A : List AV → Prop} {B : Prop} (h : o = o') : onNil o A B = onNil o' A B := by rw [h]

def fullOf : AV → Option (Nat × List AV)
  | .full sz xs => some (sz, xs)
  | _ => none
theorem fullOf_eq {p : AV} {sz : Nat} {xs : List AV} (h : fullOf p = some (sz, xs)) : p = .full sz xs := by
  unfold fullOf at h
  split at h
  · cases h; rfl
  · cases h
def onFull (o : Option (Nat × List AV)) (A : Nat → List AV → Prop) (B : Prop) : Prop := (∃ sz xs, o = some (sz, xs) ∧ A sz xs) ∨ (o = none ∧ B)
theorem onFull_some (sz : Nat) (xs : List AV) (A : Nat → List AV → Prop) (B : Prop) : onFull (some (sz, xs)) A B = A sz xs :=
  propext ⟨fun h => h.elim (fun ⟨_, _, he, h⟩ => by cases he; exact h) (fun ⟨he, _⟩ => by cases he), fun h => .inl ⟨_, _, rfl, h⟩⟩
theorem onFull_none (A : Nat → List AV → Prop) (B : Prop) : onFull none A B = B := by simp [onFull]
@[congr] theorem onFull_congr {o o' : Option (Nat × List AV)} {A : Nat → List AV → Prop} {B : Prop} (h : o = o') : onFull o A B = onFull o' A B := by rw [h]

def onOsl (o : Option (Nat × Nat × Nat × List AV × Nat × Nat)) (A : Nat → Nat → Nat → List AV → Nat → Nat → Prop) (B : Prop) : Prop := (∃ id e sz xs lo hi, o = some (id, e, sz, xs, lo, hi) ∧ A id e sz xs lo hi) ∨ (o = none ∧ B)
theorem onOsl_some (id e sz : Nat) (xs : List AV) (lo hi : Nat) (A : Nat → Nat → Nat → List AV → Nat → Nat → Prop) (B : Prop) : onOsl (some (id, e, sz, xs, lo, hi)) A B = A id e sz xs lo hi :=
  propext ⟨fun h => h.elim (fun ⟨_, _, _, _, _, _, he, h⟩ => by cases he; exact h) (fun ⟨he, _⟩ => by cases he), fun h => .inl ⟨_, _, _, _, _, _, rfl, h⟩⟩
theorem onOsl_none (A : Nat → Nat → Nat → List AV → Nat → Nat → Prop) (B : Prop) : onOsl none A B = B := by simp [onOsl]
@[congr] theorem onOsl_congr {o o' : Option (Nat × Nat × Nat × List AV × Nat × Nat)} {A : Nat → Nat → Nat → List AV → Nat → Nat → Prop} {B : Prop} (h : o = o') : onOsl o A B = onOsl o' A B := by rw [h]
/-- The head of an own array that nothing is appended to. -/
def St.cut (st : St) (id e sz : Nat) (xs : List AV) : St := st.setArr id e sz xs

/-! ### Ranges over maps that are written no more -/

def St.setIter (st : St) (id : Nat) (es : Array MapEntry) (clk : Nat) (done : List MapEntry) : St := { st with ver := upd st.ver id (st.ver id + 1), h := upd st.h id (.iter es clk done) }
def onMapv (p : AV) (f : Array MapEntry → Nat → Prop) : Prop :=
  match p with
  | .mapv es clk => f es clk
  | _ => False
theorem onMapv_v (es : Array MapEntry) (clk : Nat) (f : Array MapEntry → Nat → Prop) : onMapv (.mapv es clk) f = f es clk := Eq.trans rfl rfl
@[congr] theorem onMapv_congr {p p' : AV} {f : Array MapEntry → Nat → Prop} (h : p = p') : onMapv p f = onMapv p' f := by rw [h]
/-- A map that is ranged over: one of the walk's own is written no more from here on. -/
def onMapF (st : St) (p : AV) (f : Array MapEntry → Nat → St → Prop) : Prop :=
  match p with
  | .mapv es clk => f es clk st
  | .ref id k => k = st.ver id ∧ match st.h id with
    | .map es clk => f es clk (st.freeze id)
    | _ => False
  | _ => False
@[congr] theorem onMapF_congr {st st' : St} {p p' : AV} {f : Array MapEntry → Nat → St → Prop} (h : st = st') (hp : p = p') : onMapF st p f = onMapF st' p' f := by rw [h, hp]
def onIterB (b : Blk) (f : Array MapEntry → Nat → List MapEntry → Prop) : Prop :=
  match b with
  | .iter es clk done => f es clk done
  | _ => False
theorem onIterB_v (es : Array MapEntry) (clk : Nat) (done : List MapEntry) (f : Array MapEntry → Nat → List MapEntry → Prop) : onIterB (.iter es clk done) f = f es clk done := Eq.trans rfl rfl
@[congr] theorem onIterB_congr {b b' : Blk} {f : Array MapEntry → Nat → List MapEntry → Prop} (h : b = b') : onIterB b f = onIterB b' f := by rw [h]
def onIter (st : St) (p : AV) (f : Nat → Array MapEntry → Nat → List MapEntry → Prop) : Prop :=
  match p with
  | .rptr id k 0 0 => k = st.ver id ∧ onIterB (st.h id) (f id)
  | _ => False
theorem onIter_v {st : St} (i k : Nat) (f : Nat → Array MapEntry → Nat → List MapEntry → Prop) (hk : k = st.ver i) : onIter st (.rptr i k 0 0) f = onIterB (st.h i) (f i) := by
  simp only [onIter, hk, true_and]
@[congr] theorem onIter_congr {st st' : St} {p p' : AV} {f : Nat → Array MapEntry → Nat → List MapEntry → Prop} (h : st = st') (hp : p = p') : onIter st p f = onIter st' p' f := by rw [h, hp]
/-- What follows a step of a range over a map: nothing is left, or some entry comes. -/
def NextK (K : St → Prop) (dst : Option Tmp) (id : Nat) (es : Array MapEntry) (clk : Nat) (done : List MapEntry) (st : St) : Prop :=
  ((∀ e ∈ es.toList, e.born ∈ done.map (·.born)) → K (st.put dst (.tup [.v (.bool false)]))) ∧
  ∀ e ∈ es.toList, e.born ∉ done.map (·.born) → K ((st.setH id (.iter es clk (done ++ [e]))).put dst (.tup [.v (.bool true), .v e.key, .v e.val]))
@[congr] theorem NextK_congr {K : St → Prop} {dst : Option Tmp} {id : Nat} {es : Array MapEntry} {clk : Nat} {done : List MapEntry} {st st' : St} (h : st = st') : NextK K dst id es clk done st = NextK K dst id es clk done st' := by rw [h]

theorem NextK.mk {K : St → Prop} {dst : Option Tmp} {id : Nat} {es : Array MapEntry} {clk : Nat} {done : List MapEntry} {st : St} (h0 : (∀ e ∈ es.toList, e.born ∈ done.map (·.born)) → K (st.put dst (.tup [.v (.bool false)])))
    (h1 : ∀ e ∈ es.toList, e.born ∉ done.map (·.born) → K ((st.setH id (.iter es clk (done ++ [e]))).put dst (.tup [.v (.bool true), .v e.key, .v e.val]))) : NextK K dst id es clk done st := ⟨h0, h1⟩
def natOf : AV → Option Nat
  | .v (.int _ i) => if 0 ≤ i then some i.toNat else none
  | _ => none

theorem natOf_eq {p : AV} {n : Nat} (h : natOf p = some n) : ∃ k, p = .v (.int k (n : Int)) := by
  unfold natOf at h
  split at h
  · rename_i k i
    split at h
    · rename_i h0; simp only [Option.some.injEq] at h; exact ⟨k, by rw [← h]; congr 2; omega⟩
    · cases h
  · cases h

/-- A new array of the walk's own, with room and no element. -/
theorem Rel.makeOwn {G : Ctx} {st : St} {E : Env} {a : Act} (hr : Rel G st E a) {t e : TypeId} {sz bytes C : Nat} (he : tElem G.P t = some e) (hs : tSize G.P e = some sz) (hb : tBytes G.P e = some bytes) (hz : (tZero G.P e).isSome = true) (hC : bytes * C ≤ 281474976710656) (h63 : C ≤ maxLen) (id : Nat) (kl kc : IntKind) :
    ∃ E', (Instr.makeSlice t (.int kl 0) (.int kc (C : Int))).run G.P E.w = .ok (.slice (some ⟨E.w.heap.size, 0, none⟩) 0 C) E'.w ∧ Rel G (st.setArr id e sz []) E' a ∧ VR E' (.ref id (st.ver id + 1)) (.slice (some ⟨E.w.heap.size, 0, none⟩) 0 C) := by
  obtain ⟨i, hi, hisz⟩ := Option.map_eq_some_iff.1 hs
  have hiby : i.bytes = bytes := by have := hb; unfold tBytes at this; simpa [hi] using this
  obtain ⟨z, hz0⟩ := Option.isSome_iff_exists.1 hz
  have hiz : i.zero = some z := by unfold tZero at hz0; simpa [hi] using hz0
  obtain ⟨w', h1, h2, h3⟩ := run_make_own (P := G.P) E.w G.w0.heap.size t e i z sz (tElem_eq he) hi hiz hisz kl kc C (by rw [hiby]; exact hC) h63 hr.below.size
  let o : Own := ⟨.slice (some ⟨E.w.heap.size, 0, none⟩) 0 C, E.w.heap.size, sz⟩
  have hve : E.ver id = st.ver id := by rw [hr.ver]
  have hkeep : ∀ b, b < E.w.heap.size → w'.heap[b]? = E.w.heap[b]? := fun b hb => h3.block b hb (by simp)
  refine ⟨{ ver := upd E.ver id (st.ver id + 1), own := upd E.own id o, S := E.S, w := w' }, h1, ?_, .ref _ _ _ (by simp [upd]) fun _ => by simp [upd, o]⟩
  refine hr.own id (.arr e sz []) o (st.ver id + 1) rfl (by omega) rfl (fun h => by omega) rfl (hr.below.grown h3 hr.below.size (fun k h => by cases h)) h3.size (fun b hb _ => hkeep b hb) ?_ ?_
  · exact ⟨rfl, [], h2.w, by simp, ⟨rfl, by simp⟩, fun b hb => by simp only [o, Value.ownBlock, Option.some.injEq] at hb; subst hb; exact ⟨rfl, fun h => absurd (hr.Slt _ h) (by simp)⟩⟩
  · intro b hb; simp only [Blk.at, o, Value.ownBlock, Option.some.injEq] at hb; subst hb; exact .inr (Nat.le_refl _)

/-- A new array of the walk's own, of zeros. -/
theorem Rel.makeFull {G : Ctx} {st : St} {E : Env} {a : Act} (hr : Rel G st E a) {t e : TypeId} {bytes C : Nat} {z : Value} (he : tElem G.P t = some e) (hs : tSize G.P e = some 1) (hb : tBytes G.P e = some bytes) (hz : tZero G.P e = some z) (hone : z.oneCell' = true) (hC : bytes * C ≤ 281474976710656) (h63 : C ≤ maxLen) (id : Nat) (kl kc : IntKind) :
    ∃ E', (Instr.makeSlice t (.int kl (C : Int)) (.int kc (C : Int))).run G.P E.w = .ok (.slice (some ⟨E.w.heap.size, 0, none⟩) C C) E'.w ∧ Rel G (st.setArr id e 1 (List.replicate C (.v z))) E' a ∧ VR E' (.ref id (st.ver id + 1)) (.slice (some ⟨E.w.heap.size, 0, none⟩) C C) := by
  obtain ⟨i, hi, hisz⟩ := Option.map_eq_some_iff.1 hs
  have hiby : i.bytes = bytes := by have := hb; unfold tBytes at this; simpa [hi] using this
  have hiz : i.zero = some z := by have := hz; unfold tZero at this; simpa [hi] using this
  have hzc : z.cells = #[z] := oneCell_cells hone
  have hxs : (List.replicate C (AV.v z)).flatMap AV.cells = List.replicate C (AV.v z) := by
    induction C with
    | zero => rfl
    | succ n ih => rw [List.replicate_succ, List.flatMap_cons, ih (by rw [Nat.mul_succ] at hC; omega) (by omega)]; rfl
  have hus : (madeCells z.cells C).toList = List.replicate C z := by
    unfold madeCells
    rw [hzc]
    apply List.ext_getElem
    · simp
    · intro k h1 h2
      simp [Nat.mod_one]
  have hlen : ∀ x ∈ List.replicate C (AV.v z), x.cells.length = 1 := fun x hx => by rw [List.eq_of_mem_replicate hx]; rfl
  have hvs : VRs E ((List.replicate C (AV.v z)).flatMap AV.cells) (madeCells z.cells C).toList := by
    rw [hxs, hus]
    refine ⟨by simp, fun k x u hx hu => ?_⟩
    rw [List.getElem?_replicate] at hx hu
    split at hx
    · rename_i hk; rw [if_pos hk] at hu; cases hx; cases hu; exact .v _
    · cases hx
  obtain ⟨E', hw, hrel, hv⟩ := hr.arrOwn (e := e) hvs hlen (by simpa using h63) id
  have h63' : (C : Int) ≤ 9223372036854775807 := by unfold maxLen at h63; omega
  have hb' : (i.bytes : Int) * (C : Int) ≤ 281474976710656 := by
    have h : ((i.bytes * C : Nat) : Int) ≤ 281474976710656 := by rw [hiby]; omega
    rwa [Int.natCast_mul] at h
  have hrun := run_make (P := G.P) E.w t e i z (tElem_eq he) hi hiz kl kc C C (by omega) (Int.le_refl _) hb' h63'
  simp only [Int.toNat_natCast, hisz, Nat.mul_one] at hrun
  refine ⟨E', by rw [hrun, hw], hrel, ?_⟩
  simpa using hv

/-- An own map: which one, and what it holds. -/
def onMap (st : St) (p : AV) (f : Nat → Array MapEntry → Nat → Prop) : Prop :=
  match p with
  | .ref id k => k = st.ver id ∧ (match st.h id with
    | .map es clk => f id es clk
    | _ => False)
  | _ => False
@[congr] theorem onMap_congr {st st' : St} {p p' : AV} {f : Nat → Array MapEntry → Nat → Prop} (h : st = st') (hp : p = p') : onMap st p f = onMap st' p' f := by rw [h, hp]
/-- A key that is a text or two texts, or another one. -/
def onKeyQ (p : AV) (f : KeyQ → Prop) (no : Prop) : Prop :=
  match keyQ p with
  | some k => f k
  | none => no
@[congr] theorem onKeyQ_congr {p p' : AV} {f : KeyQ → Prop} {no : Prop} (hp : p = p') : onKeyQ p f no = onKeyQ p' f no := by rw [hp]
def onVal (p : AV) (f : Value → Prop) : Prop :=
  match p with
  | .v x => f x
  | _ => False
@[congr] theorem onVal_congr {p p' : AV} {f : Value → Prop} (hp : p = p') : onVal p f = onVal p' f := by rw [hp]
/-- A part of an own array that is to be cleared. -/
def onOslC (st : St) (p : AV) (f : Nat → Nat → Nat → List AV → Nat → Nat → Prop) (no : Prop) : Prop :=
  match p with
  | .osl id k lo hi _ => k = st.ver id ∧ (match st.h id with
    | .arr e sz xs => (lo ≤ hi ∧ hi ≤ xs.length) ∧ f id e sz xs lo hi
    | _ => False)
  | _ => no
@[congr] theorem onOslC_congr {st st' : St} {p p' : AV} {f : Nat → Nat → Nat → List AV → Nat → Nat → Prop} {no : Prop} (h : st = st') (hp : p = p') : onOslC st p f no = onOslC st' p' f no := by rw [h, hp]
/-- A number as a key, and a value to be stored. -/
def onKey (p q : AV) (f : Int → Value → Prop) : Prop :=
  match p, q with
  | .v (.int .i64 n), .v x => f n x
  | _, _ => False
@[congr] theorem onKey_congr {p p' q q' : AV} {f : Int → Value → Prop} (h : p = p') (hq : q = q') : onKey p q f = onKey p' q' f := by rw [h, hq]
/-- A hint for a new map. -/
def hintOK (st : St) : Option Operand → Prop
  | none => True
  | some x => ∃ k n, st.ev x = .v (.int k n)
/-- A pointer into an own block: which one? -/
def onRptr {α : Sort _} (p : AV) (a : Nat → α) (b : α) : α :=
  match p with
  | .rptr id _ _ _ => a id
  | _ => b
@[congr] theorem onRptr_congr {p p' : AV} {a : Nat → Prop} {b : Prop} (h : p = p') : onRptr p a b = onRptr p' a b := by rw [h]
theorem onIter_eq {st : St} {p : AV} {f : Nat → Array MapEntry → Nat → List MapEntry → Prop} (h : onIter st p f) : ∃ id es clk done, p = .rptr id (st.ver id) 0 0 ∧ st.h id = .iter es clk done ∧ f id es clk done := by
  unfold onIter at h
  split at h
  · rename_i id k
    obtain ⟨rfl, h⟩ := h
    unfold onIterB at h
    split at h
    · rename_i es clk done hh
      exact ⟨id, es, clk, done, rfl, hh, h⟩
    · cases h
  · cases h
theorem Rel.iterOwn {G : Ctx} {st : St} {E : Env} {a : Act} (hr : Rel G st E a) {b clk : Nat} {es : Array MapEntry} (hS : E.S b) (hb : E.w.heap[b]? = some (.map es clk)) (hok : mapOK es clk) (id : Nat) :
    ∃ E', E'.w = E.w.alloc (.mapIter (some b) clk #[] clk) ∧ Rel G (st.setIter id es clk []) E' a ∧ VR E' (.rptr id (st.ver id + 1) 0 0) (.pointer (some ⟨E.w.heap.size, 0, none⟩)) := by
  have hve : E.ver id = st.ver id := by rw [hr.ver]
  let o : Own := ⟨.pointer none, E.w.heap.size, 0⟩
  refine ⟨{ ver := upd E.ver id (st.ver id + 1), own := upd E.own id o, S := E.S, w := E.w.alloc (.mapIter (some b) clk #[] clk) }, rfl, ?_, .rptr _ _ _ _ _ (by simp [upd]) fun _ => by simp [upd, o]⟩
  refine hr.own id (.iter es clk []) o (st.ver id + 1) rfl (by omega) rfl (fun h => by omega) rfl (hr.below.alloc hr.below.size _) (by simp) (fun b hb _ => heap_alloc_lt _ _ b hb) ?_ ?_
  · exact ⟨b, hS, by rw [heap_alloc_lt _ _ b (hr.Slt b hS)]; exact hb, heap_alloc_new _ _, hr.below.size, fun h => absurd (hr.Slt _ h) (by simp [o]), hok, (fun _ h => by cases h), rfl⟩
  · intro b hb; simp only [Blk.at, o, Option.some.injEq] at hb; subst hb; exact .inr (Nat.le_refl _)
theorem Rel.iterNext {G : Ctx} {st : St} {E : Env} {a : Act} (hr : Rel G st E a) {id clk : Nat} {es : Array MapEntry} {done : List MapEntry} (hh : st.h id = .iter es clk done) (ty : TypeId) :
    ((∀ e ∈ es.toList, e.born ∈ done.map (·.born)) ∧ (Instr.next (.pointer (some ⟨(E.own id).blk, 0, none⟩)) false ty).run G.P E.w = .ok (.tuple #[.bool false]) E.w) ∨
    ∃ e ∈ es.toList, e.born ∉ done.map (·.born) ∧ ∃ w', (Instr.next (.pointer (some ⟨(E.own id).blk, 0, none⟩)) false ty).run G.P E.w = .ok (.tuple #[.bool true, e.key, e.val]) w' ∧ Rel G (st.setH id (.iter es clk (done ++ [e]))) { E with w := w' } a := by
  have hb := hr.blocks id
  rw [hh] at hb
  obtain ⟨b, hS, hm, hit, hbase, hnS, hok, hin, hsz⟩ := hb
  rcases run_next_at (P := G.P) E.w ty (E.own id).blk b clk clk _ es clk hit hm hok.1 (Nat.le_refl _) with ⟨h0, h1⟩ | ⟨e, he, w1, hw1, h1⟩
  · refine .inl ⟨fun e he => ?_, h1⟩
    have := all_seen es _ h0 e he
    simpa using this
  · obtain ⟨he1, he2⟩ := mem_left he
    refine .inr ⟨e, he1, by simpa using he2, _, h1, ?_⟩
    have hne : (E.own id).blk ≠ b := fun h => hnS (h ▸ hS)
    have hlt := (Array.getElem?_eq_some_iff.1 hit).1
    have hheap : w1.heap = E.w.heap := by rcases hw1 with rfl | rfl <;> rfl
    have hbl : Below G.w0.heap.size G.w0 w1 := by
      rcases hw1 with rfl | rfl
      · exact hr.below
      · exact ⟨hr.below.os, hr.below.tape, hr.below.output, hr.below.size, hr.below.block⟩
    have hset : ∀ o, ChangeMaps.setBlock w1 (E.own id).blk o = w1.putObj (E.own id).blk o := fun _ => rfl
    rw [hset]
    have hr' := hr.own (E' := { E with w := w1.putObj (E.own id).blk (.mapIter (some b) clk (((done.map (·.born)).toArray).push e.born) clk) }) id (.iter es clk (done ++ [e])) (E.own id) (E.ver id) (by funext j; by_cases h : j = id <;> simp [upd, h]) (Nat.le_refl _) (by funext j; by_cases h : j = id <;> simp [upd, h]) (fun _ => rfl) rfl
      (below_putObj hbl hbase _) (by rw [World.putObj_size, hheap]; exact Nat.le_refl _) (fun c hc hne' => by rw [World.putObj_heap_other (fun he => hne' (by rw [hh, he]; rfl)), hheap])
      ⟨b, hS, by rw [World.putObj_heap_other (Ne.symm hne), hheap]; exact hm, by rw [World.putObj_heap_same (by rw [hheap]; exact hlt)]; simp, hbase, hnS, hok, (fun x hx => by
        rcases List.mem_append.1 hx with hx | hx
        · exact hin x hx
        · simp only [List.mem_singleton] at hx; subst hx; exact he1), hsz⟩ (fun c hc => .inl (by rw [hh]; exact hc))
    have he' : upd st.ver id (E.ver id) = st.ver := by funext j; by_cases h : j = id <;> simp [upd, h, hr.ver]
    rw [he'] at hr'
    exact hr'

/-- The walk of one operation that is no call of a function. -/
def vcOp (G : Ctx) (own : List Nat) (K : St → Prop) (o : Oper) (st : St) : Prop :=
  match o.op with
  | .alloc t => match o.dst with
    | some d => bindP (tZero G.P t) fun z => (valCells z).all (okCell st) = true ∧ K ((st.setBox (G.ids d) (valCells z)).put (some d) (.rptr (G.ids d) (st.ver (G.ids d) + 1) 0 0))
    | none => False
  | .box _ x => match o.dst with
    | some d => okCells st (st.ev x) = true ∧ if d ∈ own then K ((st.setBox (G.ids d) (st.ev x).cells).put (some d) (.rptr (G.ids d) (st.ver (G.ids d) + 1) 0 0)) else K (st.put (some d) (.eptr (st.ev x).cells 0))
    | none => False
  | .build t parts => bindP (buildAV G.P st t parts) fun r => K (st.put o.dst r)
  | .buildSlice t len parts => match o.dst with
    | some d => bindP (litAV G.P st t len parts) fun x => if d ∈ own then K ((st.setArr (G.ids d) x.1 x.2.1 x.2.2).put (some d) (.ref (G.ids d) (st.ver (G.ids d) + 1))) else K (st.put (some d) (.lst x.2.1 x.2.2))
    | none => False
  | .binOp op t x y k => onNil (nilSrc st (st.ev x))
      (fun xs => st.ev y = .v (.slice none 0 0) ∧ (tElem G.P t).isSome = true ∧ ((op = .eql ∧ ∀ b : Bool, (b = true → xs = []) → K (st.put o.dst (.v (.bool b)))) ∨ (op = .neq ∧ ∀ b : Bool, (b = false → xs = []) → K (st.put o.dst (.v (.bool b))))))
      (bindP (evalV G.P st (.binOp op t x y k)) fun r => K (st.put o.dst r))
  | .store t p x => bindP (storeSt G.P st t (st.ev p) (st.ev x)) fun st' => K (st'.put o.dst .junk)
  | .call c => match c.callee with
    | .builtin .append => match c.args.toList, c.argTypes.toList, o.dst with
      | [p, q], [t, t'], some d => t' = t ∧ bindP (tElem G.P t) fun e => bindP (tSize G.P e) fun sz => bindP (tBytes G.P e) fun bytes => ((tZero G.P e).map (·.cells.size) = some sz ∧ 0 < sz) ∧
          onFull (fullOf (st.ev p)) (fun sz' xs => sz' = sz ∧ bindP (srcAV st sz (st.ev q)) fun ys => ((∀ c ∈ ys, okCells st c = true) ∧ (xs.length + ys.length) * bytes ≤ 140737488355328 ∧ xs.length + ys.length ≤ 140737488355328) ∧
            (ys = [] → K (st.put (some d) (.lst sz xs))) ∧ (ys ≠ [] → K ((st.setArr (G.ids d) e sz (xs ++ ys)).put (some d) (.ref (G.ids d) (st.ver (G.ids d) + 1)))))
          (onOsl (oslOf st (st.ev p)) (fun id e' sz' xs lo hi => (e' = e ∧ sz' = sz) ∧ bindP (srcAV st sz (st.ev q)) fun ys => ((∀ c ∈ ys, okCells st c = true) ∧ (hi - lo + ys.length) * bytes ≤ 140737488355328 ∧ hi - lo + ys.length ≤ 140737488355328) ∧
            (ys = [] → lo = 0 ∧ K ((st.setArr id e sz (xs.take hi)).put (some d) (.ref id (st.ver id + 1)))) ∧ (ys ≠ [] → K ((st.setArr (G.ids d) e sz ((xs.drop lo).take (hi - lo) ++ ys)).put (some d) (.ref (G.ids d) (st.ver (G.ids d) + 1)))))
          (bindP (destAV st (G.ids d) e sz (st.ev p)) fun dx => bindP (srcAV st sz (st.ev q)) fun ys => ((∀ c ∈ ys, okCells st c = true) ∧ (dx.2.length + ys.length) * bytes ≤ 140737488355328 ∧ dx.2.length + ys.length ≤ 140737488355328) ∧
          K ((st.setArr dx.1 e sz (dx.2 ++ ys)).put (some d) (.ref dx.1 (st.ver dx.1 + 1)))))
      | _, _, _ => False
    | .builtin .clear => match c.args.toList, c.argTypes.toList with
      | [x], [t] => onOslC st (st.ev x) (fun id e sz xs lo hi => tElem G.P t = some e ∧ bindP (tZero G.P e) fun z => (z.cells.toList.all (·.oneCell') = true ∧ z.cells.size = sz ∧ 0 < sz) ∧
          K ((st.setH id (.arr e sz (xs.take lo ++ List.replicate (hi - lo) (.agg (valCells z)) ++ xs.drop hi))).put o.dst (.tup [])))
        ((tMap G.P t).isSome = true ∧ onMap st (st.ev x) fun id _ clk => K ((st.setH id (.map #[] clk)).put o.dst (.tup [])))
      | _, _ => False
    | .builtin _ => bindP (evalV G.P st o.op) fun r => K (st.put o.dst r)
    | .value f => onFn2 (st.ev f) (fun g first captured => CallSem G g (first ++ (c.args.toList.map st.ev ++ captured)) o.dst K st) (fun l => YieldSem G l (c.args.toList.map st.ev) o.dst K st)
    | .invoke .. => False
  | .makeSlice t l c => match o.dst with
    | some d => bindP (tElem G.P t) fun e => bindP (tSize G.P e) fun sz => bindP (tBytes G.P e) fun bytes => bindP (tZero G.P e) fun z => bindP (natOf (st.ev c)) fun C => bindP (natOf (st.ev l)) fun L => ((L = 0 ∨ (L = C ∧ sz = 1 ∧ z.oneCell' = true)) ∧ bytes * C ≤ 281474976710656 ∧ C ≤ 281474976710656) ∧ K ((st.setArr (G.ids d) e sz (List.replicate L (.v z))).put (some d) (.ref (G.ids d) (st.ver (G.ids d) + 1)))
    | none => False
  | .makeMap t r => match o.dst with
    | some d => (tMap G.P t).isSome = true ∧ hintOK st r ∧ K ((st.setMap (G.ids d) #[] 0).put (some d) (.ref (G.ids d) (st.ver (G.ids d) + 1)))
    | none => False
  | .mapUpdate t m k x => bindP (tMap G.P t) fun y => onKeyQ (st.ev k) (fun q => q.okT G.P y.1 = true ∧ onMap st (st.ev m) fun id es clk => qM es q = true ∧ onVal (st.ev x) fun v => K ((st.setH id (.map (qput es clk q v).1 (qput es clk q v).2)).put o.dst .junk)) (tInt G.P y.1 = some .i64 ∧ onMap st (st.ev m) fun id es clk => intM es = true ∧ onKey (st.ev k) (st.ev x) fun n v => K ((st.setH id (.map (mput es clk n v).1 (mput es clk n v).2)).put o.dst .junk))
  | .slice t x lo hi mx => onRptr (st.ev x) (fun id => bindP (evalV G.P (st.freeze id) (.slice t x lo hi mx)) fun r => K ((st.freeze id).put o.dst r)) (bindP (evalV G.P st (.slice t x lo hi mx)) fun r => K (st.put o.dst r))
  | .range t x => match o.dst with
    | some d => (tMap G.P t).isSome = true ∧ onMapF st (st.ev x) fun es clk st => mapOK es clk ∧ K ((st.setIter (G.ids d) es clk []).put (some d) (.rptr (G.ids d) (st.ver (G.ids d) + 1) 0 0))
    | none => False
  | .next x b => b = false ∧ onIter st (st.ev x) fun id es clk done => NextK K o.dst id es clk done st
  | .entry x => onIter st (st.ev x) fun _ _ _ done => bindP done.getLast? fun e => K (st.put o.dst (.tup [.v e.key, .v e.val]))
  | op => bindP (evalV G.P st op) fun r => K (st.put o.dst r)

/-- Behind a call: the operations that are still to come. A name, so that nothing looks into it ahead of time. -/
def CallVC (G : Ctx) (g : FuncId) (args : List AV) (dst : Option Tmp) (K : St → Prop) (st : St) : Prop := CallSem G g args dst K st

def dstOK (n : Nat) : Option Tmp → Prop
  | some d => d < n
  | none => True

/-- Is what a guard hangs on what it wants? (An operation that was passed over yields nothing.) -/
def guardV (p : AV) (want : Bool) : Option Bool :=
  match p with
  | .v (.bool b) => some (b == want)
  | .v (.tuple _) => some false
  | _ => none
def guardSlot (ops : Array Oper) (j : Nat) : Option Tmp := (ops[j]?).bind (·.dst)

def vcOps (G : Ctx) (own : List Nat) (ops : Array Oper) (Q : St → Prop) : List Oper → St → Prop
  | [], st => Q st
  | o :: rest, st => dstOK G.n o.dst ∧ match o.guard with
    | none => vcOp G own (vcOps G own ops Q rest) o st
    | some (j, want) => match guardSlot ops j with
      | some t => bindP (guardV (st.σ t) want) fun b => if b = true then vcOp G own (vcOps G own ops Q rest) o st else vcOps G own ops Q rest (st.put o.dst (.v undef))
      | none => False

section
variable {G : Ctx} {st : St} {E : Env} {a : Act}

theorem Rel.σ_put_h {st' : St} (hr : Rel G st' E a) : Rel G st' E a := hr

theorem run_box {P : Program} (t : TypeId) (x : Value) (w : World) : (Instr.box t x).run P w = .ok (.pointer (some ⟨w.heap.size, 0, none⟩)) (w.alloc (.cells x.cells t (0, 0))) := by
  simp [Instr.box, newVar, newRow]

theorem run_zeroValue {P : Program} {t : TypeId} {z : Value} (h : tZero P t = some z) (w : World) : (zeroValue t).run P w = .ok z w := by
  unfold tZero at h
  cases hi : P.info? t with
  | none => simp [hi] at h
  | some i => have : i.zero = some z := by simpa [hi] using h
              simp [zeroValue, typeInfo, hi, this]

theorem vcOp_sound0 (own : List Nat) {o : Oper} {K : St → Prop} (hny : ∀ c f l, o.op = .call c → c.callee = .value f → st.ev f ≠ .v (.func (.yield l) #[] #[])) (hd : dstOK G.n o.dst) (hr : Rel G st E a) (h : vcOp G own K o st) {Q : Exit → Act → World → Prop} :
    o.wp G.P a E.w (fun a' w' => ∃ st' E', E'.w = w' ∧ Rel G st' E' a' ∧ K st') Q := by
  have hdst : ∀ d, o.dst = some d → d < G.n := fun d he => by rw [he] at hd; exact hd
  have value : ∀ {r : AV}, evalV G.P st o.op = some r → K (st.put o.dst r) → o.wp G.P a E.w (fun a' w' => ∃ st' E', E'.w = w' ∧ Rel G st' E' a' ∧ K st') Q := by
    intro r hr1 hk
    obtain ⟨z, h1, h2⟩ := evalV_sound hr hr1
    unfold Oper.wp
    rw [h1, Oper.upon_value]
    exact ⟨_, E, rfl, hr.put h2 hdst, hk⟩
  unfold vcOp at h
  split at h
  · rename_i t ho
    split at h
    case h_2 => cases h
    rename_i d hdd
    obtain ⟨z, hz, hzc, hk⟩ := h
    obtain ⟨E', hw, hrel, hv⟩ := hr.boxOwn (valCells_vrs E z) t (G.ids d)
    unfold Oper.wp
    have hrun : (execOp a.eval o).run G.P E.w = .ok (.value (.pointer (some ⟨E.w.heap.size, 0, none⟩))) (E.w.alloc (.cells z.cells t (0, 0))) := by
      simp [execOp, ho, Instr.alloc, run_zeroValue hz, newVar, newRow]
    rw [hrun, Oper.upon_value]
    refine ⟨_, E', hw, ?_, hk⟩
    rw [hdd]
    exact hrel.put hv (fun d' he => by cases he; exact hdst _ hdd)
  · rename_i t x ho
    split at h
    case h_2 => cases h
    rename_i d hdd
    obtain ⟨hok, hk⟩ := h
    have hrun : (execOp a.eval o).run G.P E.w = .ok (.value (.pointer (some ⟨E.w.heap.size, 0, none⟩))) (E.w.alloc (.cells (a.eval x).cells t (0, 0))) := by
      simp [execOp, ho, run_box]
    unfold Oper.wp
    rw [hrun, Oper.upon_value, hdd]
    split at hk
    · obtain ⟨hv, _⟩ := okCells_spec hr (hr.ev x) hok
      obtain ⟨E', hw, hrel, hv'⟩ := hr.boxOwn hv t (G.ids d)
      exact ⟨_, E', hw, hrel.put hv' (fun d' he => by cases he; exact hdst _ hdd), hk⟩
    · obtain ⟨hrel, hv⟩ := hr.boxFrozen (hr.ev x) hok t
      exact ⟨_, _, rfl, hrel.put hv (fun d' he => by cases he; exact hdst _ hdd), hk⟩
  · rename_i t parts ho
    obtain ⟨r, hb, hk⟩ := h
    obtain ⟨z, h1, h2⟩ := buildAV_sound hr hb
    have hrun : (execOp a.eval o).run G.P E.w = .ok (.value z) E.w := by
      simp only [execOp, ho, Sem.run_bind, h1]; rfl
    unfold Oper.wp
    rw [hrun, Oper.upon_value]
    exact ⟨_, E, rfl, hr.put h2 hdst, hk⟩
  · rename_i t len parts ho
    split at h
    case h_2 => cases h
    rename_i d hdd
    obtain ⟨⟨e, sz, xs⟩, hl, hk⟩ := h
    simp only at hk
    obtain ⟨us, hrun0, hxl, hcl, hvs, hone, hokx, hus⟩ := run_lit hr hl
    have hrun : (execOp a.eval o).run G.P E.w = .ok (.value (.slice (some ⟨E.w.heap.size, 0, none⟩) len len)) (E.w.alloc (.cells us e (0, 0))) := by
      simp only [execOp, ho, Sem.run_bind, hrun0]; rfl
    have hlen : xs.length ≤ maxLen := by
      unfold litAV at hl
      split at hl
      · cases hl
      split at hl
      · cases hl
      rename_i sz' hsz'
      split at hl
      case isFalse => cases hl
      rename_i hc
      rw [hxl]
      unfold maxLen
      have h3 := hc.2.2.1.2
      omega
    unfold Oper.wp
    rw [hrun, Oper.upon_value, hdd]
    split at hk
    · obtain ⟨E', hw, hrel, hv'⟩ := hr.arrOwn (e := e) hvs hcl hlen (G.ids d)
      rw [hxl] at hv'
      exact ⟨_, E', hw, hrel.put hv' (fun d' he => by cases he; exact hdst _ hdd), hk⟩
    · refine ⟨_, _, rfl, (hr.frozen (.cells us e (0, 0))).put (r := .lst sz xs) ?_ (fun d' he => by cases he; exact hdst _ hdd), hk⟩
      have hle := E.le_frozen hr.Slt (.cells us e (0, 0))
      have hul : us.size = xs.length * sz := by rw [hus, hxl]
      have := VR.lst (E := E.frozen (.cells us e (0, 0))) sz xs E.w.heap.size 0 len (fun k => us.getD k undef) (.inr rfl) (by omega) (by rw [← hxl]; exact hlen) (fun k hk => frozen_get E us e k (by omega))
        (fun i x hi => hcl x (List.mem_of_getElem? hi)) (fun i x j c hi hj => by
          have hjl : j < sz := by rw [← hcl x (List.mem_of_getElem? hi)]; exact (List.getElem?_eq_some_iff.1 hj).1
          have hg := flat_get xs i x j hcl hi hjl
          rw [hj] at hg
          have hi' : i < xs.length := (List.getElem?_eq_some_iff.1 hi).1
          have hmul : i * sz + sz ≤ xs.length * sz := by rw [← Nat.succ_mul]; exact Nat.mul_le_mul_right _ hi'
          refine (hvs.2 _ c _ hg ?_).mono hle
          simp [Array.getD_eq_getD_getElem?, show i * sz + j < us.size from by omega])
      rw [hxl] at this
      exact this
  · rename_i op t x y k ho
    rcases h with ⟨xs, hxs, h⟩ | ⟨_, h⟩
    · obtain ⟨hy, hte, hk⟩ := h
      obtain ⟨e, he⟩ := Option.isSome_iff_exists.mp hte
      have hyv := hr.ev y
      rw [hy] at hyv
      have hyv := hyv.v_inv
      obtain ⟨ad, n, cp, hx, hnil⟩ : ∃ ad n cp, a.eval x = .slice ad n cp ∧ (ad.isNone = true → xs = []) := by
        have hxv := hr.ev x
        generalize hp : st.ev x = p at hxs hxv
        generalize a.eval x = z at hxv
        unfold nilSrc at hxs
        split at hxs
        · cases hxs
          cases hxv with
          | lst _ _ b off cap u _ _ _ => exact ⟨_, _, _, rfl, by simp⟩
          | lstNil => exact ⟨_, _, _, rfl, by simp⟩
          | lstNo => exact ⟨_, _, _, rfl, by simp⟩
        · split at hxs
          case isFalse => cases hxs
          rename_i hk
          split at hxs
          · rename_i hh
            cases hxs
            cases hxv with
            | ref _ _ _ h1 h2 =>
              rw [h2 (by rw [hr.ver]; exact hk)]
              have hb := hr.blocks
              rename_i id _ _ _ _
              have hb := hb id
              rw [hh] at hb
              obtain ⟨_, us, hown, _⟩ := hb
              rcases hown.2 with ⟨hv, hn⟩ | ⟨g, cap, cur, hv, _⟩
              · exact ⟨_, _, _, hv, fun _ => List.eq_nil_of_length_eq_zero hn⟩
              · exact ⟨_, _, _, hv, by simp⟩
          · cases hxs
        · cases hxs
      have heq : (Op.equal t (.slice ad n cp) (.slice none 0 0)).run G.P E.w = .ok ad.isNone E.w := run_equal_slice_nil E.w t e ad n cp (tElem_eq he)
      rcases hk with ⟨rfl, hk⟩ | ⟨rfl, hk⟩
      · have hrun : (execOp a.eval o).run G.P E.w = .ok (.value (.bool ad.isNone)) E.w := by
          simp [execOp, ho, hx, hyv, eqGuard, binOp, heq]
        unfold Oper.wp
        rw [hrun, Oper.upon_value]
        exact ⟨_, E, rfl, hr.put (.v _) hdst, hk _ hnil⟩
      · have hrun : (execOp a.eval o).run G.P E.w = .ok (.value (.bool !ad.isNone)) E.w := by
          simp [execOp, ho, hx, hyv, eqGuard, binOp, heq]
        unfold Oper.wp
        rw [hrun, Oper.upon_value]
        exact ⟨_, E, rfl, hr.put (.v _) hdst, hk _ fun h => hnil (by simpa using h)⟩
    · obtain ⟨r, hr1, hk⟩ := h
      exact value (by rw [ho]; exact hr1) hk
  · rename_i t p x ho
    obtain ⟨st', hs, hk⟩ := h
    obtain ⟨E', h1, hrel⟩ := storeSt_sound hr (hr.ev p) (hr.ev x) hs
    have hrun : (execOp a.eval o).run G.P E.w = .ok .skip E'.w := by
      simp only [execOp, ho, Sem.run_bind, h1]; rfl
    unfold Oper.wp
    rw [hrun, Oper.upon_skip]
    exact ⟨_, E', rfl, hrel.put (.junk _) hdst, hk⟩
  · rename_i c ho
    split at h
    · rename_i hcal
      split at h
      case h_2 => cases h
      rename_i p q t t' d hargs htypes hdd
      obtain ⟨rfl, e, he, sz, hs, bytes, hb, ⟨hz, hpos⟩, h⟩ := h
      have hargs' : c.args = #[p, q] := by rw [← Array.toList_inj]; simpa using hargs
      have htypes' : c.argTypes = #[t', t'] := by rw [← Array.toList_inj]; simpa using htypes
      rcases h with ⟨sz', xs, hfull, rfl, ys, hsrc, ⟨hok, hn, hn'⟩, hk0, hk1⟩ | ⟨_, ⟨id, e', sz', xs, lo, hi, hosl, ⟨rfl, rfl⟩, ys, hsrc, ⟨hok, hn, hn'⟩, hk0, hk1⟩ | ⟨_, ⟨id, xs⟩, hdest, ys, hsrc, ⟨hok, hn, hn'⟩, hk⟩⟩
      · have hxp := hr.ev p
        rw [fullOf_eq hfull] at hxp
        by_cases hne : ys = []
        · subst hne
          obtain ⟨h1, hv⟩ := appendFull_none (ty := o.type) hr hxp (hr.ev q) he hs hsrc
          have hrun : (execOp a.eval o).run G.P E.w = .ok (.value (a.eval p)) E.w := by
            simp [execOp, ho, resolve, hcal, hargs', htypes', invoke, builtin, h1]
          unfold Oper.wp
          rw [hrun, Oper.upon_value, hdd]
          exact ⟨_, E, rfl, hr.put hv (fun d' he => by cases he; exact hdst _ hdd), hk0 rfl⟩
        · obtain ⟨x', E', h1, hrel, hv⟩ := appendFull_sound (id := G.ids d) (ty := o.type) hr hxp (hr.ev q) he hs hb hz hpos hsrc hok hne hn (by unfold maxLen; omega)
          have hrun : (execOp a.eval o).run G.P E.w = .ok (.value x') E'.w := by
            simp [execOp, ho, resolve, hcal, hargs', htypes', invoke, builtin, h1]
          unfold Oper.wp
          rw [hrun, Oper.upon_value, hdd]
          exact ⟨_, E', rfl, hrel.put hv (fun d' he => by cases he; exact hdst _ hdd), hk1 hne⟩
      · have hxp := hr.ev p
        obtain ⟨hpe, hh, hlh, hhi⟩ := oslOf_eq hosl
        rw [hpe] at hxp
        by_cases hne : ys = []
        · subst hne
          obtain ⟨hlo, hk2⟩ := hk0 rfl
          subst hlo
          obtain ⟨E', h1, hrel, hv⟩ := appendOsl_none (ty := o.type) hr hh hhi hxp (hr.ev q) he hs hsrc
          have hrun : (execOp a.eval o).run G.P E.w = .ok (.value (a.eval p)) E'.w := by
            simp [execOp, ho, resolve, hcal, hargs', htypes', invoke, builtin, h1]
          unfold Oper.wp
          rw [hrun, Oper.upon_value, hdd]
          exact ⟨_, E', rfl, hrel.put hv (fun d' he => by cases he; exact hdst _ hdd), hk2⟩
        · obtain ⟨x', E', h1, hrel, hv⟩ := appendOsl_sound (id := G.ids d) (ty := o.type) hr hh hlh hhi hxp (hr.ev q) he hs hb hz hpos hsrc hok hne hn (by unfold maxLen; omega)
          have hrun : (execOp a.eval o).run G.P E.w = .ok (.value x') E'.w := by
            simp [execOp, ho, resolve, hcal, hargs', htypes', invoke, builtin, h1]
          unfold Oper.wp
          rw [hrun, Oper.upon_value, hdd]
          exact ⟨_, E', rfl, hrel.put hv (fun d' he => by cases he; exact hdst _ hdd), hk1 hne⟩
      simp only at hn hn' hk
      obtain ⟨x', E', h1, hrel, hv⟩ := append_sound (ty := o.type) hr (hr.ev p) (hr.ev q) he hs hb hz hpos hdest hsrc hok hn (by unfold maxLen; omega)
      have hrun : (execOp a.eval o).run G.P E.w = .ok (.value x') E'.w := by
        simp [execOp, ho, resolve, hcal, hargs', htypes', invoke, builtin, h1]
      unfold Oper.wp
      rw [hrun, Oper.upon_value, hdd]
      exact ⟨_, E', rfl, hrel.put hv (fun d' he => by cases he; exact hdst _ hdd), hk⟩
    · rename_i hcal
      split at h
      case h_2 => cases h
      rename_i x t hargs htypes
      unfold onOslC at h
      split at h
      · rename_i id k lo hi f hev
        obtain ⟨hver, h⟩ := h
        split at h
        case h_2 => cases h
        rename_i e sz xs hh
        obtain ⟨⟨hlh, hhx⟩, hte, z, hz, ⟨h1, hzs, hpos⟩, h⟩ := h
        have hargs' : c.args = #[x] := by rw [← Array.toList_inj]; simpa using hargs
        have htypes' : c.argTypes = #[t] := by rw [← Array.toList_inj]; simpa using htypes
        have hmv := hr.ev x
        rw [hev, hver] at hmv
        obtain ⟨E', hrun0, hrel⟩ := clear_sound (ty := o.type) hr hh hmv hlh hhx hte hz h1 hzs hpos
        have hrun : (execOp a.eval o).run G.P E.w = .ok (.value (.tuple #[])) E'.w := by
          simp [execOp, ho, resolve, hcal, hargs', htypes', invoke, builtin, hrun0]
        unfold Oper.wp
        rw [hrun, Oper.upon_value]
        exact ⟨_, E', rfl, Rel.put (st := st.setH id (.arr e sz (xs.take lo ++ List.replicate (hi - lo) (.agg (valCells z)) ++ xs.drop hi))) (r := .tup []) hrel (.tup [] #[] rfl (by simp)) hdst, h⟩
      obtain ⟨hm, h⟩ := h
      obtain ⟨⟨kt, et⟩, hm⟩ := Option.isSome_iff_exists.mp hm
      unfold onMap at h
      split at h
      case h_2 => cases h
      rename_i id v hev
      obtain ⟨hver, h⟩ := h
      split at h
      case h_2 => cases h
      rename_i es clk hh
      have hargs' : c.args = #[x] := by rw [← Array.toList_inj]; simpa using hargs
      have htypes' : c.argTypes = #[t] := by rw [← Array.toList_inj]; simpa using htypes
      have hmv := hr.ev x
      rw [hev] at hmv
      have hb := hr.blocks id
      rw [hh] at hb
      obtain ⟨g1, g2, _⟩ := hb
      have hmm : a.eval x = .map (some (E.own id).blk) := by
        generalize hgm : a.eval x = y at hmv
        cases hmv with
        | ref _ _ _ h1 h2 => rw [h2 (by rw [hr.ver]; exact hver)]; exact g2
      have hrel := hr.mapSet hh #[] clk
      have hrun : (execOp a.eval o).run G.P E.w = .ok (.value (.tuple #[])) (E.w.putObj (E.own id).blk (.map #[] clk)) := by
        simp [execOp, ho, resolve, hcal, hargs', htypes', invoke, builtin, Builtin.clear_, run_underlying (tMap_eq hm), hmm, MapKept.run_getObj_map g1, MapKept.run_setObj_map _ g1, World.putObj]
      unfold Oper.wp
      rw [hrun, Oper.upon_value]
      exact ⟨_, _, rfl, Rel.put (st := st.setH id (.map #[] clk)) (r := .tup []) hrel (.tup [] #[] rfl (by simp)) hdst, h⟩
    · obtain ⟨r, hr1, hk⟩ := h
      exact value hr1 hk
    · rename_i f hcal
      rcases h with h | ⟨l, hl, _⟩
      case inr => exact (hny c f l ho hcal hl).elim
      obtain ⟨g, first, captured, hf, h⟩ := h
      obtain ⟨⟨fn, hfn, hbody, hname⟩, hcall⟩ := h
      have hvf := hr.ev f
      rw [hf] at hvf
      generalize hfe : a.eval f = fv at hvf
      cases hvf with
      | fn _ _ _ us vs h1 h2 h3 h4 =>
        have hrun : (execOp a.eval o).run G.P E.w = .ok (.enter g (us ++ c.args.map a.eval ++ vs)) E.w := by
          have hname' : ¬ fn.name = "runtime.NumGoroutine" := by simpa using hname
          simp [execOp, ho, resolve, hcal, hfe, Deferred.ofValue, invoke, callFunc, hfn, hname']
          cases hb : fn.body with
          | none => simp [hb] at hbody
          | some _ => simp
        unfold Oper.wp
        rw [hrun, Oper.upon_enter]
        refine (hcall E a (us ++ c.args.map a.eval ++ vs) hr (by simp [h1, h2, Nat.add_assoc]) fun i p hp => ?_).mono ?_
        · simp only [List.getElem?_append, List.length_map, Array.length_toList] at hp
          simp only [Array.getD_eq_getD_getElem?, Array.getElem?_append, Array.size_append, Array.size_map]
          by_cases hi1 : i < first.length
          · rw [if_pos hi1] at hp
            rw [if_pos (by omega), if_pos (by omega)]
            have := h3 i p hp
            simpa [Array.getD_eq_getD_getElem?] using this
          · rw [if_neg hi1] at hp
            by_cases hi2 : i - first.length < c.args.size
            · rw [if_pos hi2] at hp
              rw [if_pos (by omega), if_neg (by omega)]
              simp only [List.getElem?_map, Option.map_eq_some_iff, Array.getElem?_toList] at hp
              obtain ⟨x, hx, rfl⟩ := hp
              have : (Array.map a.eval c.args)[i - us.size]? = some (a.eval x) := by rw [← h1]; simp [hx]
              rw [this]; exact hr.ev x
            · rw [if_neg hi2] at hp
              rw [if_neg (by omega)]
              have := h4 _ p hp
              rw [h1] at this
              simpa [Array.getD_eq_getD_getElem?, Nat.sub_sub] using this
        · rintro e w' ⟨v, rfl, st', E', rfl, hrel, hk⟩
          exact ⟨st', E', rfl, hrel, hk⟩
    · cases h
  · rename_i t l c ho
    split at h
    case h_2 => cases h
    rename_i d hdd
    obtain ⟨e, he, sz, hs, bytes, hb, z, hz, C, hc, L, hl, ⟨hL, hC, hC'⟩, hk⟩ := h
    obtain ⟨kl, hl'⟩ := natOf_eq hl
    obtain ⟨kc, hc'⟩ := natOf_eq hc
    have e1 : a.eval l = .int kl (L : Int) := by have := hr.ev l; rw [hl'] at this; exact this.v_inv
    have e2 : a.eval c = .int kc (C : Int) := by have := hr.ev c; rw [hc'] at this; exact this.v_inv
    rcases hL with rfl | ⟨rfl, rfl, hone⟩
    case inr =>
      obtain ⟨E', h1, hrel, hv⟩ := hr.makeFull he hs hb hz hone hC (by unfold maxLen; omega) (G.ids d) kl kc
      have hrun : (execOp a.eval o).run G.P E.w = .ok (.value (.slice (some ⟨E.w.heap.size, 0, none⟩) L L)) E'.w := by
        simp only [execOp, ho, Sem.run_bind, e1, e2, h1]; rfl
      unfold Oper.wp
      rw [hrun, Oper.upon_value, hdd]
      exact ⟨_, E', rfl, hrel.put hv (fun d' he => by cases he; exact hdst _ hdd), hk⟩
    obtain ⟨E', h1, hrel, hv⟩ := hr.makeOwn he hs hb (by rw [hz]; rfl) hC (by unfold maxLen; omega) (G.ids d) kl kc
    have e1 : a.eval l = .int kl 0 := e1
    have hrun : (execOp a.eval o).run G.P E.w = .ok (.value (.slice (some ⟨E.w.heap.size, 0, none⟩) 0 C)) E'.w := by
      simp only [execOp, ho, Sem.run_bind, e1, e2, h1]; rfl
    unfold Oper.wp
    rw [hrun, Oper.upon_value, hdd]
    exact ⟨_, E', rfl, hrel.put hv (fun d' he => by cases he; exact hdst _ hdd), hk⟩
  · rename_i t r ho
    split at h
    case h_2 => cases h
    rename_i d hdd
    obtain ⟨hm, hh, hk⟩ := h
    obtain ⟨⟨kt, et⟩, hm⟩ := Option.isSome_iff_exists.mp hm
    obtain ⟨E', hw, hrel, hv⟩ := hr.mapOwn (G.ids d)
    have hrun : (execOp a.eval o).run G.P E.w = .ok (.value (.map (some E.w.heap.size))) (E.w.alloc (.map #[] 0)) := by
      cases r with
      | none => simp [execOp, ho, Instr.makeMap, newObj]; rfl
      | some x =>
        obtain ⟨k, n, hx⟩ := hh
        have hx' : a.eval x = .int k n := by have := hr.ev x; rw [hx] at this; exact this.v_inv
        simp [execOp, ho, Instr.makeMap, run_underlying (tMap_eq hm), hx', asInt, newObj]; rfl
    unfold Oper.wp
    rw [hrun, Oper.upon_value, hdd]
    exact ⟨_, E', hw, hrel.put hv (fun d' he => by cases he; exact hdst _ hdd), hk⟩
  · rename_i t m k x ho
    obtain ⟨⟨kt, et⟩, hm, h⟩ := h
    unfold onKeyQ at h
    split at h
    · rename_i q hkq
      obtain ⟨hok, h⟩ := h
      unfold onMap at h
      split at h
      case h_2 => cases h
      rename_i id v hev
      obtain ⟨hver, h⟩ := h
      split at h
      case h_2 => cases h
      rename_i es clk hh
      obtain ⟨hq, h⟩ := h
      unfold onVal at h
      split at h
      case h_2 => cases h
      rename_i z hez
      have hmv := hr.ev m
      rw [hev] at hmv
      have hkv : a.eval k = q.val := keyQ_val (hr.ev k) hkq
      have hxv : a.eval x = z := by have := hr.ev x; rw [hez] at this; exact this.v_inv
      have hb := hr.blocks id
      rw [hh] at hb
      obtain ⟨g1, g2, _⟩ := hb
      have hmm : a.eval m = .map (some (E.own id).blk) := by
        generalize hgm : a.eval m = y at hmv
        cases hmv with
        | ref _ _ _ h1 h2 => rw [h2 (by rw [hr.ver]; exact hver)]; exact g2
      have hrel := hr.mapSet hh (qput es clk q z).1 (qput es clk q z).2
      have hrun : (execOp a.eval o).run G.P E.w = .ok .skip (E.w.putObj (E.own id).blk (.map (qput es clk q z).1 (qput es clk q z).2)) := by
        simp only [execOp, ho, Sem.run_bind, hmm, hkv, hxv, run_mapUpdate_Q (tMap_eq hm) hok g1 hq z]; rfl
      unfold Oper.wp
      rw [hrun, Oper.upon_skip]
      exact ⟨_, _, rfl, Rel.put (st := st.setH id (.map (qput es clk q z).1 (qput es clk q z).2)) hrel (.junk _) hdst, h⟩
    obtain ⟨hki, h⟩ := h
    unfold onMap at h
    split at h
    case h_2 => cases h
    rename_i id v hev
    obtain ⟨hver, h⟩ := h
    split at h
    case h_2 => cases h
    rename_i es clk hh
    obtain ⟨hint, h⟩ := h
    unfold onKey at h
    split at h
    case h_2 => cases h
    rename_i n z hek hez
    have hmv := hr.ev m
    rw [hev] at hmv
    have hkv : a.eval k = .int .i64 n := by have := hr.ev k; rw [hek] at this; exact this.v_inv
    have hxv : a.eval x = z := by have := hr.ev x; rw [hez] at this; exact this.v_inv
    have hb := hr.blocks id
    rw [hh] at hb
    obtain ⟨g1, g2, _⟩ := hb
    have hmm : a.eval m = .map (some (E.own id).blk) := by
      generalize hgm : a.eval m = y at hmv
      cases hmv with
      | ref _ _ _ h1 h2 => rw [h2 (by rw [hr.ver]; exact hver)]; exact g2
    have hrel := hr.mapSet hh (mput es clk n z).1 (mput es clk n z).2
    have hrun : (execOp a.eval o).run G.P E.w = .ok .skip (E.w.putObj (E.own id).blk (.map (mput es clk n z).1 (mput es clk n z).2)) := by
      simp only [execOp, ho, Sem.run_bind, hmm, hkv, hxv, run_mapUpdate_int (tMap_eq hm) (tInt_eq hki) g1 hint n z]; rfl
    unfold Oper.wp
    rw [hrun, Oper.upon_skip]
    exact ⟨_, _, rfl, Rel.put (st := st.setH id (.map (mput es clk n z).1 (mput es clk n z).2)) hrel (.junk _) hdst, h⟩
  · rename_i t x lo hi mx ho
    unfold onRptr at h
    split at h
    · rename_i id k i j hev
      obtain ⟨r, h1, hk⟩ := h
      have hrf := hr.freeze id
      have h1' : evalV G.P (st.freeze id) o.op = some r := by rw [ho]; exact h1
      obtain ⟨z, h3, h4⟩ := evalV_sound hrf h1'
      have h3' : (execOp a.eval o).run G.P E.w = .ok (.value z) E.w := h3
      unfold Oper.wp
      rw [h3', Oper.upon_value]
      exact ⟨_, E.fz st id, rfl, hrf.put h4 hdst, hk⟩
    · obtain ⟨r, hr1, hk⟩ := h
      exact value (by rw [ho]; exact hr1) hk
  · rename_i t x ho
    split at h
    case h_2 => cases h
    rename_i d hdd
    obtain ⟨hm, h⟩ := h
    obtain ⟨⟨kt, et⟩, hm⟩ := Option.isSome_iff_exists.mp hm
    have fin : ∀ (st : St) (E : Env) (hr : Rel G st E a) (es : Array MapEntry) (clk : Nat) (xv : Value) (hgx : a.eval x = xv) (hxv : VR E (.mapv es clk) xv) (hok : mapOK es clk) (hk : K ((st.setIter (G.ids d) es clk []).put (some d) (.rptr (G.ids d) (st.ver (G.ids d) + 1) 0 0))),
        o.wp G.P a E.w (fun a' w' => ∃ st' E', E'.w = w' ∧ Rel G st' E' a' ∧ K st') Q := by
      intro st E hr es clk xv hgx hxv hok hk
      cases hxv with
      | mapv _ _ b hS hb =>
        obtain ⟨E', hw, hrel, hv⟩ := hr.iterOwn hS hb hok (G.ids d)
        have hrun : (execOp a.eval o).run G.P E.w = .ok (.value (.pointer (some ⟨E.w.heap.size, 0, none⟩))) E'.w := by
          simp [execOp, ho, hgx, run_range_map E.w t kt et b es clk (tMap_eq hm) hb, hw]
        unfold Oper.wp
        rw [hrun, Oper.upon_value, hdd]
        exact ⟨_, E', rfl, hrel.put hv (fun d' he => by cases he; exact hdst _ hdd), hk⟩
    unfold onMapF at h
    split at h
    · rename_i es clk hev
      obtain ⟨hok, hk⟩ := h
      have hxv := hr.ev x
      rw [hev] at hxv
      exact fin st E hr es clk _ rfl hxv hok hk
    · rename_i id k hev
      obtain ⟨hver, h⟩ := h
      split at h
      case h_2 => cases h
      rename_i es clk hh
      obtain ⟨hok, hk⟩ := h
      have hrf := hr.freeze id
      have hxv := fz_sound hr (id := id) (hr.ev x)
      rw [hev] at hxv
      have hfz : fz st id (.ref id k) = .mapv es clk := by
        show fz0 st id (.ref id k) = _
        simp [fz0, hver, hh]
      rw [hfz] at hxv
      exact fin (st.freeze id) (E.fz st id) hrf es clk _ rfl hxv hok hk
    · cases h
  · rename_i x bb ho
    obtain ⟨rfl, h⟩ := h
    obtain ⟨id, es, clk, done, hev, hh, hk0, hk1⟩ := onIter_eq h
    have hxv := hr.ev x
    rw [hev] at hxv
    have hxp : a.eval x = .pointer (some ⟨(E.own id).blk, 0, none⟩) := by
      have hb := hr.blocks id
      rw [hh] at hb
      obtain ⟨_, _, _, _, _, _, _, _, hsz⟩ := hb
      generalize a.eval x = xv at hxv
      cases hxv with
      | rptr _ _ _ _ _ h1 h2 => rw [h2 (by rw [hr.ver])]; simp
    rcases hr.iterNext hh o.type with ⟨hall, h1⟩ | ⟨e, he, hnew, w', h1, hrel⟩
    · have hrun : (execOp a.eval o).run G.P E.w = .ok (.value (.tuple #[.bool false])) E.w := by
        simp [execOp, ho, hxp, h1]
      unfold Oper.wp
      rw [hrun, Oper.upon_value]
      exact ⟨_, E, rfl, hr.put (.tup _ _ rfl (fun i c hc => by
        match i, hc with
        | 0, hc => cases hc; exact .v _)) hdst, hk0 hall⟩
    · have hrun : (execOp a.eval o).run G.P E.w = .ok (.value (.tuple #[.bool true, e.key, e.val])) w' := by
        simp [execOp, ho, hxp, h1]
      unfold Oper.wp
      rw [hrun, Oper.upon_value]
      exact ⟨_, _, rfl, hrel.put (.tup _ _ rfl (fun i c hc => by
        match i, hc with
        | 0, hc => cases hc; exact .v _
        | 1, hc => cases hc; exact .v _
        | 2, hc => cases hc; exact .v _)) hdst, hk1 e he hnew⟩
  · rename_i x ho
    obtain ⟨id, es, clk, done, hev, hh, e, hl, hk⟩ := onIter_eq h
    have hxv := hr.ev x
    rw [hev] at hxv
    have hb := hr.blocks id
    rw [hh] at hb
    obtain ⟨b, hS, hm, hit, _, _, hok, hin, hsz⟩ := hb
    have hxp : a.eval x = .pointer (some ⟨(E.own id).blk, 0, none⟩) := by
      generalize a.eval x = xv at hxv
      cases hxv with
      | rptr _ _ _ _ _ h1 h2 => rw [h2 (by rw [hr.ver])]; simp
    obtain ⟨done', rfl⟩ : ∃ done', done = done' ++ [e] := by
      obtain ⟨ys, hys⟩ := List.getLast?_eq_some_iff.1 hl
      exact ⟨ys, hys⟩
    have hit' : E.w.heap[(E.own id).blk]? = some (.mapIter (some b) clk ((done'.map (·.born)).toArray.push e.born) clk) := by
      rw [hit]; simp
    have h1 := run_entry_at (P := G.P) E.w (E.own id).blk b clk _ es clk e hit' hm (hin e (by simp)) hok.2
    have hrun : (execOp a.eval o).run G.P E.w = .ok (.value (.tuple #[e.key, e.val])) E.w := by
      simp [execOp, ho, hxp, h1]
    unfold Oper.wp
    rw [hrun, Oper.upon_value]
    exact ⟨_, E, rfl, hr.put (.tup _ _ rfl (fun i c hc => by
      match i, hc with
      | 0, hc => cases hc; exact .v _
      | 1, hc => cases hc; exact .v _)) hdst, hk⟩
  · obtain ⟨r, hr1, hk⟩ := h
    exact value hr1 hk

/-! ### In whatever frame -/

theorem comesIn_F {P : Program} {m m' : Machine} {e : Ending} (h : Comes P m m' e) : ComesIn (Machine.fenced P G.F) P m m' e := comesIn_wide.2 h
theorem callsIn_F {n : Nat} {P : Program} {f : FuncId} {args : Array Value} {w : World} {R : Ending → World → Prop} (h : Calls P f args w R) : CallsIn G.F n P f args w R :=
  ⟨trivial, fun cs _ => let ⟨e, w', fr, r, s, x⟩ := h cs; ⟨e, w', fr, r, comesIn_F s, x⟩⟩
theorem rowsIn_F {n : Nat} {P : Program} {row : String} {args : Array Value} {w : World} {R : Value → World → Prop} (h : Rows P row args w R) : RowsIn G.F n P row args w R :=
  fun c cs _ => let ⟨v, w', r, s⟩ := h c cs; ⟨v, w', r, stepsIn_wide.2 s⟩

theorem Oper.wpIn_of_wp {o : Oper} {w : World} {K : Act → World → Prop} {Q : Exit → Act → World → Prop} (hnd : ∀ c, o.op ≠ .defer c) (h : o.wp G.P a w K Q) : o.wpIn G.F 0 G.P a w K Q := by
  refine ⟨fun _ _ => trivial, ?_⟩
  have e : o.semAt G.F.round a.eval = execOp a.eval o := by
    unfold Oper.semAt
    split
    · rename_i hop; exact (hnd _ hop).elim
    · rfl
  rw [e]
  unfold Oper.wp at h
  generalize (execOp a.eval o).run G.P w = res at h
  cases res with
  | ok nx w' =>
    cases nx <;> first | exact h | exact h.elim | exact ⟨fun h => (by cases h), callsIn_F h⟩ | exact ⟨fun h => (by cases h), rowsIn_F h⟩
  | halt hl w' => cases hl <;> first | exact h | exact h.elim

theorem vcOp_noDefer {own : List Nat} {o : Oper} {K : St → Prop} (h : vcOp G own K o st) : ∀ c, o.op ≠ .defer c := by
  intro c hc
  unfold vcOp at h
  simp only [hc] at h
  obtain ⟨r, hr, _⟩ := h
  cases hr

theorem vcOp_sound (own : List Nat) {o : Oper} {K : St → Prop} (hd : dstOK G.n o.dst) (hr : Rel G st E a) (h : vcOp G own K o st) {Q : Exit → Act → World → Prop} :
    o.wpIn G.F 0 G.P a E.w (fun a' w' => ∃ st' E', E'.w = w' ∧ Rel G st' E' a' ∧ K st') Q := by
  by_cases hny : ∀ c f l, o.op = .call c → c.callee = .value f → st.ev f ≠ .v (.func (.yield l) #[] #[])
  · exact Oper.wpIn_of_wp (vcOp_noDefer h) (vcOp_sound0 own hny hd hr h)
  · have hy : ∃ c f l, o.op = .call c ∧ c.callee = .value f ∧ st.ev f = .v (.func (.yield l) #[] #[]) :=
      Classical.byContradiction fun hn => hny fun c f l h1 h2 h3 => hn ⟨c, f, l, h1, h2, h3⟩
    obtain ⟨c, f, l, ho, hcal, hf⟩ := hy
    have h' := h
    unfold vcOp at h'
    simp only [ho, hcal, hf, onFn2_y] at h'
    have hfe : a.eval f = .func (.yield l) #[] #[] := by have := hr.ev f; rw [hf] at this; exact this.v_inv
    obtain ⟨fn, tmps, assign, body, h1, h2⟩ := h' E a (c.args.map a.eval) hr (by simp) fun i p hp => by
      simp only [List.getElem?_map, Option.map_eq_some_iff, Array.getElem?_toList] at hp
      obtain ⟨x, hx, rfl⟩ := hp
      simp only [Array.getD_eq_getD_getElem?, Array.getElem?_map, hx, Option.map_some, Option.getD_some]
      exact hr.ev x
    refine ⟨fun _ _ => trivial, ?_⟩
    have e : o.semAt G.F.round a.eval = execOp a.eval o := by
      unfold Oper.semAt
      split
      · rename_i hop; rw [ho] at hop; cases hop
      · rfl
    rw [e]
    have hrun : (execOp a.eval o).run G.P E.w = .ok (.round l fn tmps assign body) E.w := by
      simp [execOp, ho, resolve, hcal, hfe, Deferred.ofValue, invoke, h1]
    rw [hrun, Oper.uponIn_round]
    refine ⟨fun h => (by cases h), h2.mono ?_⟩
    rintro e w' ⟨v, rfl, st', E', rfl, hrel, hk⟩
    exact ⟨st', E', rfl, hrel, hk⟩

theorem guardV_sound {ops : Array Oper} {j : Nat} {t : Tmp} {want b : Bool} (hr : Rel G st E a) (ht : guardSlot ops j = some t) (h : guardV (st.σ t) want = some b) : (yielded ops a.tmps j == some want) = b := by
  have hs := hr.slots t
  unfold guardSlot at ht
  unfold yielded
  rw [ht]
  simp only [Array.getD_eq_getD_getElem?] at hs
  unfold guardV at h
  split at h
  · rename_i x hx
    rw [hx] at hs
    have hvv := hs.v_inv
    cases h
    cases htt : a.tmps[t]? with
    | none => simp [htt, undef] at hvv
    | some y => simp [htt] at hvv; subst hvv; simp [htt]
  · rename_i us hx
    rw [hx] at hs
    have hvv := hs.v_inv
    cases h
    cases htt : a.tmps[t]? with
    | none => simp [htt]
    | some y => simp [htt] at hvv; subst hvv; simp [htt]
  · cases h

theorem vcOps_sound (own : List Nat) {ops : Array Oper} {Q : St → Prop} {Q' : Exit → Act → World → Prop} : ∀ (l : List Oper) (st : St) (E : Env) (a : Act), Rel G st E a → vcOps G own ops Q l st → (∀ st' E' a', Rel G st' E' a' → Q st' → Q' .normal a' E'.w) →
    wpListIn G.F 0 G.P ops Q' l a E.w
  | [], st, E, a, hr, h, hq => hq st E a hr h
  | o :: rest, st, E, a, hr, h, hq => by
    obtain ⟨hd, h⟩ := h
    have ih := vcOps_sound own (ops := ops) (Q := Q) (Q' := Q') rest
    have go : vcOp G own (vcOps G own ops Q rest) o st → o.wpIn G.F 0 G.P a E.w (wpListIn G.F 0 G.P ops Q' rest) Q' := fun hv =>
      Oper.wpIn_mono (fun a' w' ⟨st', E', hw, hrel, hk⟩ => by subst hw; exact ih st' E' a' hrel hk hq) (vcOp_sound own hd hr hv)
    unfold wpListIn
    unfold Region.wanted
    split at h
    · rename_i hg
      simp only [hg, if_true]
      exact go h
    · rename_i j want hg
      simp only [hg]
      split at h
      · rename_i t ht
        · obtain ⟨b, hb, h⟩ := h
          rw [guardV_sound hr ht hb]
          cases b with
          | true =>
            simp only [if_true] at h ⊢
            exact go h
          | false =>
            simp only [Bool.false_eq_true, if_false] at h ⊢
            exact ⟨fun _ _ => trivial, ih _ E _ (hr.put (.v undef) (fun d he => by rw [he] at hd; exact hd)) h hq⟩
      · cases h

/-- A region that goes by the order of its text. -/
theorem AWp.region {id : Nat} {ops : Array Oper} {Q : Exit → St → Prop} (own : List Nat) (h : vcOps G own ops (Q .normal) ops.toList st) : AWp G (.region id ops false) Q st := fun E a hr =>
  wpIn_region_list (vcOps_sound own ops.toList st E a hr h fun st' E' _ hr' hq => ⟨st', E', rfl, hr', hq⟩)

/-! ### Calls by contract -/

theorem CallSem.pure {g : FuncId} {args : List AV} {dst : Option Tmp} {K : St → Prop} {r : AV} (hac : AC G.P g args r) (hd : dstOK G.n dst) (hk : K ((st.take (G.ids (dst.getD 0)) r).1.put dst (st.take (G.ids (dst.getD 0)) r).2)) : CallSem G g args dst K st := by
  refine ⟨hac.fn, fun E a vs hr hl hv => ?_⟩
  refine (hac.run E.S E.w vs hr.Slt hl fun i p hp => (hac.pargs p (List.mem_of_getElem? hp)).to0 (hv i p hp)).mono ?_
  rintro e w' ⟨v, S', rfl, hb, h1, h2, h3, h4⟩
  obtain ⟨hrel, hle⟩ := hr.afterCall hb h1 h2 h3
  obtain ⟨E', hw, _, hrel', hv'⟩ := hrel.take (B := E.w.heap.size) hr.below.size hac.pres h4 (fun j b hb => ((hr.blocks j).at_lt hb).2.1) (G.ids (dst.getD 0))
  exact ⟨v, rfl, _, E', hw, hrel'.put hv' (fun d he => by rw [he] at hd; exact hd), hk⟩

theorem RR1.flat {E E' : Env} {base : Nat} {r : AV} {x : Value} (hf : FlatR1 r) (hw : E'.w = E.w) (hS : ∀ b, E'.S b → E.S b) (h : RR1 E base r x) : RR1 E' base r x := by
  cases r with
  | fresh e sz xs =>
    obtain ⟨us, h1, h2, h3, h4⟩ := h
    refine ⟨us, by rw [hw]; exact h1, h2, ⟨h3.1, fun i c u hc hu => ?_⟩, fun b hb hS' => h4 b hb (hS b hS')⟩
    obtain ⟨y, hy, hm⟩ := List.mem_flatMap.1 (List.mem_of_getElem? hc)
    exact hf y hy c hm _ _ _ (h3.2 i c u hc hu)
  | _ => exact hf _ _ _ h

theorem RR.flat {E E' : Env} {base : Nat} {r : AV} {x : Value} (hf : FlatR r) (hw : E'.w = E.w) (hS : ∀ b, E'.S b → E.S b) (h : RR E base r x) : RR E' base r x := by
  by_cases ht : ∃ rs, r = .tup rs
  · obtain ⟨rs, rfl⟩ := ht
    obtain ⟨us, h1, h2, h3, h4⟩ := h
    exact ⟨us, h1, h2, fun i r hi => (h3 i r hi).flat (hf r (List.mem_of_getElem? hi)) hw hS, h4⟩
  · have e1 : ∀ E, RR E base r x = RR1 E base r x := fun E => by cases r <;> first | rfl | exact absurd ⟨_, rfl⟩ ht
    have e2 : FlatR r = FlatR1 r := by cases r <;> first | rfl | exact absurd ⟨_, rfl⟩ ht
    rw [e1] at h ⊢
    rw [e2] at hf
    exact h.flat hf hw hS

/-- A call that is lent memory of the walk's own, and hands back nothing that leads into it. -/
theorem CallSem.lent {g : FuncId} {args : List AV} {dst : Option Tmp} {K : St → Prop} {r : AV} (hac : AC G.P g (args.map (borrow st)) r) (hflat : FlatR r) (hd : dstOK G.n dst) (hk : K ((st.take (G.ids (dst.getD 0)) r).1.put dst (st.take (G.ids (dst.getD 0)) r).2)) :
    CallSem G g args dst K st := by
  refine ⟨hac.fn, fun E a vs hr hl hv => ?_⟩
  refine (hac.run E.all.S E.w vs (fun _ h => h) (by simpa using hl) fun i p hp => ?_).mono ?_
  · have hpure := hac.pargs p (List.mem_of_getElem? hp)
    simp only [List.getElem?_map, Option.map_eq_some_iff] at hp
    obtain ⟨q, hq, rfl⟩ := hp
    exact hpure.to0 (borrow_sound hr (hv i q hq))
  · rintro e w' ⟨v, S', rfl, hb, h1, h2, h3, h4⟩
    obtain ⟨hrel, hle⟩ := hr.afterCall (S' := E.S) hb (fun _ h => h) (fun _ h => .inl h) fun b h => Nat.lt_of_lt_of_le (hr.Slt b h) hb.size
    have h4' : RR (env0 E.S w') E.w.heap.size r v := RR.flat (E := env0 S' w') (E' := env0 E.S w') hflat rfl (fun b h => h1 b (hr.Slt b h)) h4
    obtain ⟨E', hw, _, hrel', hv'⟩ := hrel.take (B := E.w.heap.size) hr.below.size hac.pres h4' (fun j b hb => ((hr.blocks j).at_lt hb).2.1) (G.ids (dst.getD 0))
    exact ⟨v, rfl, _, E', hw, hrel'.put hv' (fun d he => by rw [he] at hd; exact hd), hk⟩

/-- Arguments may be taken for weaker ones. -/
theorem CallSem.wk {g : FuncId} {args args' : List AV} {dst : Option Tmp} {K : St → Prop} (hw : WkL args args') (h : CallSem G g args' dst K st) : CallSem G g args dst K st := by
  obtain ⟨h1, h2⟩ := hw.get
  refine ⟨h.1, fun E a vs hr hl hv => h.2 E a vs hr (by rw [← h1]; exact hl) fun i q hi => ?_⟩
  have hlt : i < args.length := by rw [h1]; exact (List.getElem?_eq_some_iff.1 hi).1
  have hp := List.getElem?_eq_getElem hlt
  exact (h2 i _ _ hp hi).sound (hv i _ hp)
/-- Own memory that is written no more is given away. -/
theorem CallSem.freeze (id : Nat) {g : FuncId} {args : List AV} {dst : Option Tmp} {K : St → Prop} (h : CallSem G g (args.map (fz st id)) dst K (st.freeze id)) : CallSem G g args dst K st := by
  refine ⟨h.1, fun E a vs hr hl hv => h.2 (E.fz st id) a vs (hr.freeze id) (by simpa using hl) fun i p hi => ?_⟩
  simp only [List.getElem?_map, Option.map_eq_some_iff] at hi
  obtain ⟨q, hq, rfl⟩ := hi
  exact fz_sound hr (hv i q hq)
/-- A call by contract. -/
theorem CallSem.by {g : FuncId} {args args' : List AV} {dst : Option Tmp} {K : St → Prop} {r : AV} (hac : AC G.P g args' r) (hw : WkL args args') (hd : dstOK G.n dst) (hk : K ((st.take (G.ids (dst.getD 0)) r).1.put dst (st.take (G.ids (dst.getD 0)) r).2)) : CallSem G g args dst K st :=
  .wk hw (.pure hac hd hk)

end
end Go.Abs

-- part Fj
namespace Go.Abs
open Go Go.RowKit

def vcCode (G : Ctx) (own : List Nat) : Code → (Exit → St → Prop) → St → Prop
  | .skip, Q, st => Q .normal st
  | .label _, Q, st => Q .normal st
  | .ret, Q, st => Q .ret st
  | .exit id, Q, st => Q (.exit id) st
  | .region id ops draw, Q, st => match draw with
    | false => vcOps G own ops (Q .normal) ops.toList st
    | true => AWp G (.region id ops true) Q st
  | .seq a b, Q, st => vcCode G own a (thenA (vcCode G own b Q) Q) st
  | .cond c a b, Q, st => onBool (st.ev c) fun t => if t = true then vcCode G own a Q st else vcCode G own b Q st
  | .block id c, Q, st => vcCode G own c (inBlockA id Q) st
  | .loop c, Q, st => AWp G (.loop c) Q st
  | .rangeFunc f ps x c, Q, st => AWp G (.rangeFunc f ps x c) Q st
  | .scope c, Q, st => AWp G (.scope c) Q st
  | .goto l, Q, st => AWp G (.goto l) Q st
  | .refuse _, _, _ => False

theorem AWp.of_vc {G : Ctx} (own : List Nat) : ∀ {c : Code} {Q : Exit → St → Prop} {st : St}, vcCode G own c Q st → AWp G c Q st
  | .skip, _, _, h => .skip h
  | .label _, _, _, h => .label h
  | .ret, _, _, h => .ret h
  | .exit _, _, _, h => .exit h
  | .region _ _ false, _, _, h => .region own h
  | .region _ _ true, _, _, h => h
  | .seq a b, Q, st, h => by
      have h' : vcCode G own a (thenA (vcCode G own b Q) Q) st := h
      refine .seq (AWp.mono (AWp.of_vc own h') fun e s hq => ?_)
      cases e with
      | normal => exact AWp.of_vc own (c := b) (Q := Q) hq
      | _ => exact hq
  | .cond _ _ _, _, _, h => by
      obtain ⟨t, h1, h2⟩ := h
      refine .cond h1 ?_
      split
      · rename_i ht; rw [if_pos ht] at h2; exact AWp.of_vc own h2
      · rename_i ht; rw [if_neg ht] at h2; exact AWp.of_vc own h2
  | .block _ _, _, _, h => .block (AWp.of_vc own h)
  | .loop _, _, _, h => h
  | .rangeFunc _ _ _ _, _, _, h => h
  | .scope _, _, _, h => h
  | .goto _, _, _, h => h
  | .refuse _, _, _, h => h.elim

theorem AWp.loop_vc {G : Ctx} (own : List Nat) {c : Code} {Q : Exit → St → Prop} {st : St} (I : Nat → St → Prop) (n₀ : Nat) (h₀ : I n₀ st)
    (round : ∀ n s, I n s → vcCode G own c (thenA (fun s' => ∃ n', n' < n ∧ I n' s') Q) s) : AWp G (.loop c) Q st :=
  AWp.loop I n₀ h₀ fun n s h => AWp.of_vc own (round n s h)

/- The walk's simp looks into the state alone. -/
@[congr] theorem AWp_congr {G : Ctx} {c : Code} {Q : Exit → St → Prop} {st st' : St} (h : st = st') : AWp G c Q st = AWp G c Q st' := by rw [h]
@[congr] theorem vcCode_congr {G : Ctx} {own : List Nat} {c : Code} {Q : Exit → St → Prop} {st st' : St} (h : st = st') : vcCode G own c Q st = vcCode G own c Q st' := by rw [h]
@[congr] theorem vcOps_congr {G : Ctx} {own : List Nat} {ops : Array Oper} {Q : St → Prop} {l : List Oper} {st st' : St} (h : st = st') : vcOps G own ops Q l st = vcOps G own ops Q l st' := by rw [h]
@[congr] theorem vcOp_congr {G : Ctx} {own : List Nat} {K : St → Prop} {o : Oper} {st st' : St} (h : st = st') : vcOp G own K o st = vcOp G own K o st' := by rw [h]
@[congr] theorem CallSem_congr {G : Ctx} {g : FuncId} {args args' : List AV} {dst : Option Tmp} {K : St → Prop} {st st' : St} (ha : args = args') (h : st = st') : CallSem G g args dst K st = CallSem G g args' dst K st' := by rw [h, ha]

@[congr] theorem thenA_congr {K : St → Prop} {Q : Exit → St → Prop} {e : Exit} {st st' : St} (h : st = st') : thenA K Q e st = thenA K Q e st' := by rw [h]
@[congr] theorem inBlockA_congr {id : Nat} {Q : Exit → St → Prop} {e : Exit} {st st' : St} (h : st = st') : inBlockA id Q e st = inBlockA id Q e st' := by rw [h]
end Go.Abs

-- part Fk
namespace Go.Abs
open Go Go.RowKit

def allBelow (w : World) : Nat → Prop := fun b => b < w.heap.size

/-- Whatever the form reads at this type stands for a datum. -/
def Opens (P : Program) (t : TypeId) {α : Type} (cells : α → List AV) (ok : α → Prop) : Prop :=
  ∀ (H : Type) (enc : TypeId × Value → H) (w : World) (fuel : Nat) (cs : List Value) (d : DataW H) (ps : List MemPlace),
    DataW.trod enc P w 0 (fun _ => true) true fuel t cs = some (d, ps) → ∃ x, ok x ∧ VRs (env0 (allBelow w) w) (cells x) cs

theorem vrs_one {E : Env} {p : AV} {x : Value} (h : VR E p x) : VRs E [p] [x] := ⟨rfl, fun i a u ha hu => by
  cases i with
  | zero => simp at ha hu; subst ha; subst hu; exact h
  | succ i => simp at ha⟩

theorem vrs_append {E : Env} {as bs : List AV} {us vs : List Value} (h : VRs E as us) (k : VRs E bs vs) : VRs E (as ++ bs) (us ++ vs) := by
  refine ⟨by simp [h.1, k.1], fun i a u ha hu => ?_⟩
  by_cases hi : i < as.length
  · rw [List.getElem?_append_left hi] at ha
    rw [List.getElem?_append_left (by rw [← h.1]; exact hi)] at hu
    exact h.2 i a u ha hu
  · rw [List.getElem?_append_right (by omega)] at ha
    rw [List.getElem?_append_right (by rw [← h.1]; omega), ← h.1] at hu
    exact k.2 _ a u ha hu

theorem Opens.map {P : Program} {t : TypeId} {α β : Type} {cells : α → List AV} {ok : α → Prop} {cells' : β → List AV} {ok' : β → Prop} (h : Opens P t cells ok) (g : α → β) (hc : ∀ x, ok x → cells' (g x) = cells x) (hok : ∀ x, ok x → ok' (g x)) : Opens P t cells' ok' := by
  intro H enc w fuel cs d ps ht
  obtain ⟨x, h1, h2⟩ := h H enc w fuel cs d ps ht
  exact ⟨g x, hok x h1, by rw [hc x h1]; exact h2⟩

section
variable {P : Program} {t : TypeId}

theorem opens_int {k : IntKind} (hu : P.underlying t = some (.int k)) : Opens P t (fun n : Int => [.v (.int k n)]) (fun n => k.min ≤ n ∧ n ≤ k.max) := by
  intro H enc w fuel cs d ps h
  cases fuel with
  | zero => simp [DataW.trod] at h
  | succ fuel =>
    rcases cs with _ | ⟨c, _ | ⟨c2, cs⟩⟩
    · simp [DataW.trod, hu] at h
    · cases c <;> simp [DataW.trod, hu] at h
      rename_i k' n
      obtain ⟨⟨rfl, hw⟩, _, _⟩ := h
      exact ⟨n, by simpa [Lit.wf] using hw, vrs_one (.v _)⟩
    · simp [DataW.trod, hu] at h

theorem opens_bool (hu : P.underlying t = some .bool) : Opens P t (fun n : Bool => [.v (.bool n)]) (fun _ => True) := by
  intro H enc w fuel cs d ps h
  cases fuel with
  | zero => simp [DataW.trod] at h
  | succ fuel =>
    rcases cs with _ | ⟨c, _ | ⟨c2, cs⟩⟩
    · simp [DataW.trod, hu] at h
    · cases c <;> simp [DataW.trod, hu] at h
      rename_i n
      exact ⟨n, trivial, vrs_one (.v _)⟩
    · simp [DataW.trod, hu] at h

theorem opens_string (hu : P.underlying t = some .string) : Opens P t (fun n : List UInt8 => [.v (.string ⟨n.toArray⟩)]) (fun n => n.length ≤ maxLen) := by
  intro H enc w fuel cs d ps h
  cases fuel with
  | zero => simp [DataW.trod] at h
  | succ fuel =>
    rcases cs with _ | ⟨c, _ | ⟨c2, cs⟩⟩
    · simp [DataW.trod, hu] at h
    · cases c <;> simp [DataW.trod, hu] at h
      rename_i s
      exact ⟨s.data.toList, by simpa using h.1, vrs_one (.v _)⟩
    · simp [DataW.trod, hu] at h

theorem mapM_some {α β : Type} {f : α → Option β} : ∀ (l : List α) (r : List β), l.mapM f = some r → l.length = r.length ∧ ∀ (i : Nat) a, l[i]? = some a → ∃ b, r[i]? = some b ∧ f a = some b
  | [], r, h => by simp at h; subst h; exact ⟨rfl, by simp⟩
  | a :: l, r, h => by
    simp only [List.mapM_cons, Option.bind_eq_bind, Option.bind_eq_some_iff, Option.pure_def, Option.some.injEq] at h
    obtain ⟨b, hb, r', hr', rfl⟩ := h
    obtain ⟨h1, h2⟩ := mapM_some l r' hr'
    refine ⟨by simp [h1], fun i x hx => ?_⟩
    cases i with
    | zero => simp at hx; subst hx; exact ⟨b, rfl, hb⟩
    | succ i => obtain ⟨y, hy, hf⟩ := h2 i x (by simpa using hx); exact ⟨y, by simpa using hy, hf⟩

theorem opens_slice {e : TypeId} {sz : Nat} (hu : P.underlying t = some (.slice e)) (hsz : P.cellsOf e = sz) (hpos : 0 < sz) {α : Type} {cells : α → List AV} {ok : α → Prop} (he : Opens P e cells ok) (el : α → AV) (hel : ∀ x, (el x).cells = cells x) :
    Opens P t (fun l : List α => [.lst sz (l.map el)]) (fun l => ∀ x ∈ l, ok x) := by
  intro H enc w fuel cs d ps h
  cases fuel with
  | zero => simp [DataW.trod] at h
  | succ fuel =>
    have hcase : (cs = [.slice none 0 0] ∨ ∃ ad len cap, cs = [.slice (some ad) len cap]) := by
      rcases cs with _ | ⟨c, _ | ⟨c2, cs⟩⟩
      · simp [DataW.trod, hu] at h
      · cases c with
        | slice a len cap =>
          cases a with
          | none =>
            cases len <;> cases cap <;> first | exact .inl rfl | (simp [DataW.trod, hu] at h)
          | some ad => exact .inr ⟨ad, len, cap, rfl⟩
        | _ => simp [DataW.trod, hu] at h
      · simp [DataW.trod, hu] at h
    rcases hcase with rfl | ⟨ad, len, cap, rfl⟩
    · exact ⟨[], by simp, vrs_one (.lstNil sz)⟩
    · unfold DataW.trod at h
      simp only [hu] at h
      split at h
      case isFalse => cases h
      rename_i hc
      obtain ⟨_, hlc, hcm⟩ := hc
      obtain ⟨els, hels, _⟩ := Option.bind_eq_some_iff.1 h
      obtain ⟨h1, h2⟩ := mapM_some _ _ hels
      have hl1 : els.length = len := by simpa using h1.symm
      -- each element
      have hx : ∀ i, i < len → ∃ (x : α) (us : List Value), ok x ∧ us.length = sz ∧ (∀ j u, us[j]? = some u → w.cell? ((ad.add (i * sz)).add j) = some u) ∧ VRs (env0 (allBelow w) w) (cells x) us := by
        intro i hi
        obtain ⟨b, _, hb⟩ := h2 i i (by simp [hi])
        obtain ⟨us, hus, htr⟩ := Option.bind_eq_some_iff.1 hb
        unfold World.cells? at hus
        rw [if_pos (Nat.zero_le _)] at hus
        obtain ⟨g1, g2⟩ := mapM_some _ _ hus
        have hul : us.length = sz := by rw [← hsz]; simpa using g1.symm
        obtain ⟨x, hx1, hx2⟩ := he H enc w fuel us b.1 b.2 htr
        refine ⟨x, us, hx1, hul, fun j u hu' => ?_, hx2⟩
        have hj : j < sz := by rw [← hul]; exact (List.getElem?_eq_some_iff.1 hu').1
        obtain ⟨y, hy, hcell⟩ := g2 j j (by simp [hsz, hj])
        rw [hu'] at hy; cases hy
        rw [hsz] at hcell; exact hcell
      rcases Nat.eq_zero_or_pos len with h0 | h0
      · subst h0
        exact ⟨[], by simp, vrs_one (.lstNo sz cap ad hcm)⟩
      · let xf : Nat → α := fun i => if hi : i < len then (hx i hi).choose else (hx 0 h0).choose
        have hxf : ∀ i, i < len → ∃ us : List Value, ok (xf i) ∧ us.length = sz ∧ (∀ j u, us[j]? = some u → w.cell? ((ad.add (i * sz)).add j) = some u) ∧ VRs (env0 (allBelow w) w) (cells (xf i)) us := by
          intro i hi; simp only [xf, hi, dif_pos]; exact (hx i hi).choose_spec
        -- the address has no spot
        have hspot : ad.spot = none := by
          obtain ⟨us, _, hul, hcell, _⟩ := hxf 0 h0
          have := hcell 0 _ (List.getElem?_eq_getElem (by omega))
          simp only [Nat.zero_mul] at this
          have e : (ad.add 0).add 0 = ad := by simp [Addr.add]
          rw [e] at this
          cases hs : ad.spot with
          | none => rfl
          | some s =>
            exfalso
            unfold World.cell? at this
            split at this
            · simp [hs] at this
            · cases this
        obtain ⟨blk, off, spot⟩ := ad
        simp only at hspot
        subst hspot
        have hlt : blk < w.heap.size := by
          obtain ⟨us, _, hul, hcell, _⟩ := hxf 0 h0
          have := hcell 0 _ (List.getElem?_eq_getElem (by omega))
          rw [add_none, add_none] at this
          exact block_lt_of_cell this
        let u : Nat → Value := fun k => (w.cell? ⟨blk, off + k, none⟩).getD undef
        have hu : ∀ i, i < len → ∀ j, j < sz → w.cell? ⟨blk, off + (i * sz + j), none⟩ = some (u (i * sz + j)) := by
          intro i hi j hj
          obtain ⟨us, _, hul, hcell, _⟩ := hxf i hi
          have := hcell j _ (List.getElem?_eq_getElem (by omega))
          rw [add_none, add_none, Nat.add_assoc] at this
          simp [u, this]
        refine ⟨(List.range len).map xf, fun x hx' => ?_, vrs_one ?_⟩
        · obtain ⟨i, hi, rfl⟩ := List.mem_map.1 hx'
          obtain ⟨us, hok, _⟩ := hxf i (List.mem_range.1 hi)
          exact hok
        · have hlen : (((List.range len).map xf).map el).length = len := by simp
          have key := VR.lst (E := env0 (allBelow w) w) sz (((List.range len).map xf).map el) blk off cap u hlt (by rw [hlen]; exact hlc) hcm
            (fun k hk => by
              rw [hlen] at hk
              have hd : k / sz < len := Nat.div_lt_of_lt_mul (by rw [Nat.mul_comm]; exact hk)
              have hkk : k / sz * sz + k % sz = k := by rw [Nat.mul_comm]; exact Nat.div_add_mod k sz
              have := hu (k / sz) hd (k % sz) (Nat.mod_lt _ hpos)
              rwa [hkk] at this)
            (fun i x hi => by
              simp only [List.map_map, List.getElem?_map, Option.map_eq_some_iff] at hi
              obtain ⟨j, hj, rfl⟩ := hi
              have hj' : j < len := by have := List.mem_of_getElem? hj; simpa using this
              obtain ⟨us, _, hul, _, hv⟩ := hxf j hj'
              simp only [Function.comp, hel]; rw [hv.1]; exact hul)
            (fun i x j c hi hj => by
              simp only [List.map_map, List.getElem?_map, Option.map_eq_some_iff] at hi
              obtain ⟨i', hi', rfl⟩ := hi
              have hii : i' = i ∧ i < len := by
                by_cases hi2 : i < len
                · rw [List.getElem?_range hi2] at hi'; cases hi'; exact ⟨rfl, hi2⟩
                · rw [List.getElem?_eq_none (by simpa using hi2)] at hi'; cases hi'
              obtain ⟨rfl, hil⟩ := hii
              obtain ⟨us, _, hul, hcell, hv⟩ := hxf i' hil
              simp only [Function.comp, hel] at hj
              have hjl : j < us.length := by rw [← hv.1]; exact (List.getElem?_eq_some_iff.1 hj).1
              have h3 := hcell j _ (List.getElem?_eq_getElem hjl)
              rw [add_none, add_none, Nat.add_assoc] at h3
              have h4 : u (i' * sz + j) = us[j] := by simp [u, h3]
              rw [h4]
              exact hv.2 j c _ hj (List.getElem?_eq_getElem hjl))
          rw [hlen] at key
          exact key

/-- The fields of a struct, from an offset on. -/
def OpensFs (P : Program) (off : Nat) (fs : List Field) (size : Nat) {α : Type} (cells : α → List AV) (ok : α → Prop) : Prop :=
  (∀ x, ok x → (cells x).length = size) ∧
  ∀ (H : Type) (enc : TypeId × Value → H) (w : World) (fuel : Nat) (cs : List Value) (xs : List (DataW H × List MemPlace)), off + size ≤ cs.length →
    (fs.mapM fun f => DataW.trod enc P w 0 (fun _ => true) true fuel f.type ((cs.drop f.offset).take (P.cellsOf f.type))) = some xs → ∃ x, ok x ∧ VRs (env0 (allBelow w) w) (cells x) ((cs.drop off).take size)

theorem opensFs_nil {off : Nat} : OpensFs P off [] 0 (fun _ : Unit => []) (fun _ => True) :=
  ⟨fun _ _ => rfl, fun _ _ _ _ _ _ _ _ => ⟨(), trivial, by simp [VRs]⟩⟩

theorem opensFs_cons {off : Nat} {f : Field} {fs : List Field} {s1 s2 : Nat} {α β : Type} {c1 : α → List AV} {ok1 : α → Prop} {c2 : β → List AV} {ok2 : β → Prop} (hoff : f.offset = off) (hs : P.cellsOf f.type = s1) (hl : ∀ x, ok1 x → (c1 x).length = s1)
    (h1 : Opens P f.type c1 ok1) (h2 : OpensFs P (off + s1) fs s2 c2 ok2) : OpensFs P off (f :: fs) (s1 + s2) (fun x : α × β => c1 x.1 ++ c2 x.2) (fun x => ok1 x.1 ∧ ok2 x.2) := by
  refine ⟨fun x hx => by rw [List.length_append, hl _ hx.1, h2.1 _ hx.2], fun H enc w fuel cs xs hle hm => ?_⟩
  simp only [List.mapM_cons, Option.bind_eq_bind, Option.bind_eq_some_iff, Option.pure_def, Option.some.injEq] at hm
  obtain ⟨y, hy, ys, hys, rfl⟩ := hm
  rw [hoff, hs] at hy
  obtain ⟨a, ha, hva⟩ := h1 H enc w fuel _ y.1 y.2 hy
  obtain ⟨b, hb, hvb⟩ := h2.2 H enc w fuel cs ys (by omega) hys
  refine ⟨(a, b), ⟨ha, hb⟩, ?_⟩
  have e : (cs.drop off).take (s1 + s2) = (cs.drop off).take s1 ++ (cs.drop (off + s1)).take s2 := by
    rw [List.take_add, List.drop_drop]
  rw [e]
  exact vrs_append hva hvb

theorem opens_struct {fs : Array Field} {size : Nat} {α : Type} {cells : α → List AV} {ok : α → Prop} (hu : P.underlying t = some (.struct fs)) (hsz : P.cellsOf t = size) (h : OpensFs P 0 fs.toList size cells ok) : Opens P t cells ok := by
  intro H enc w fuel cs d ps ht
  cases fuel with
  | zero => simp [DataW.trod] at ht
  | succ fuel =>
    unfold DataW.trod at ht
    simp only [hu] at ht
    have ht' : (if cs.length = P.cellsOf t then (fs.toList.mapM fun f => DataW.trod enc P w 0 (fun _ => true) true fuel f.type ((cs.drop f.offset).take (P.cellsOf f.type))).map fun xs => (DataW.agg (xs.map (·.1)), xs.flatMap (·.2)) else none) = some (d, ps) := ht
    clear ht
    split at ht'
    case isFalse => cases ht'
    rename_i hl
    have ht := ht'
    obtain ⟨xs, hxs, _⟩ := Option.map_eq_some_iff.1 ht
    rw [hsz] at hl
    obtain ⟨x, hx, hv⟩ := h.2 H enc w fuel cs xs (by omega) hxs
    refine ⟨x, hx, ?_⟩
    rw [List.drop_zero, List.take_of_length_le (by omega)] at hv
    exact hv

end
end Go.Abs

-- part Fl
namespace Go.Abs
open Go Go.RowKit Go.ChangeShapes

/-- What stands for an argument: of a struct its cells together, of another type its one cell. -/
def OpensArg (P : Program) (t : TypeId) {α : Type} (enc : α → AV) (ok : α → Prop) : Prop :=
  ∀ (H : Type) (en : TypeId × Value → H) (w : World) (r : Reach) (base : Nat) (v : Value) (d : DataW H) (ps : List MemPlace),
    Value.okWide P w r base t v → DataW.Trod en P w 0 (fun _ => true) true t v d ps → ∃ x, ok x ∧ VR (env0 (allBelow w) w) (enc x) v

theorem opensArg_agg {P : Program} {t : TypeId} {α : Type} {cells : α → List AV} {ok : α → Prop} (ht : tAgg P t = some true) (h : Opens P t cells ok) : OpensArg P t (fun x => .agg (cells x)) ok := by
  intro H en w r base v d ps hv ⟨fuel, htr⟩
  have hagg : ∃ cs, v = .agg cs := by
    unfold tAgg at ht
    unfold Value.okWide at hv
    split at ht
    · rename_i fs hu; rw [hu] at hv; obtain ⟨cs, hcs, _⟩ := hv; exact ⟨cs, hcs⟩
    · rename_i n e hu; rw [hu] at hv; obtain ⟨cs, hcs, _⟩ := hv; exact ⟨cs, hcs⟩
    · cases ht
    · cases ht
  obtain ⟨cs, rfl⟩ := hagg
  obtain ⟨x, hx, hvs⟩ := h H en w fuel _ d ps htr
  refine ⟨x, hx, .agg _ _ (by simpa [Value.cells] using hvs.1) fun i c hc => ?_⟩
  have hi : i < cs.size := by have := hvs.1; simp [Value.cells] at this; rw [← this]; exact (List.getElem?_eq_some_iff.1 hc).1
  exact hvs.2 i c _ hc (by simp [Value.cells, Array.getD_eq_getD_getElem?, hi])

theorem opensArg_one {P : Program} {t : TypeId} {α : Type} {el : α → AV} {ok : α → Prop} (ht : tAgg P t = some false) (h : Opens P t (fun x => [el x]) ok) : OpensArg P t el ok := by
  intro H en w r base v d ps hv ⟨fuel, htr⟩
  have hone : v.cells = #[v] := by
    cases v with
    | agg cs =>
      exfalso
      unfold tAgg at ht
      unfold Value.okWide at hv
      split at ht
      · cases ht
      · cases ht
      · rename_i d' h1 h2 hu
        cases d' with
        | struct fs => exact h1 fs rfl
        | array n e => exact h2 n e rfl
        | _ => simp [hu, Cell.okWide, Cell.ok] at hv
      · cases ht
    | _ => rfl
  rw [hone] at htr
  obtain ⟨x, hx, hvs⟩ := h H en w fuel _ d ps htr
  exact ⟨x, hx, hvs.2 0 _ v rfl rfl⟩

/-- All arguments, one after the other. -/
def OpensArgs (P : Program) (ts : List TypeId) {α : Type} (enc : α → List AV) (ok : α → Prop) : Prop :=
  ∀ (H : Type) (en : TypeId × Value → H) (w : World) (r : Reach) (base : Nat) (vs : List Value) (ds : List (DataW H)) (ps : List MemPlace),
    (∀ (j : Nat) t v, ts[j]? = some t → vs[j]? = some v → Value.okWide P w r base t v) → DataW.TrodAll en P w 0 (fun _ => true) true ts vs ds ps →
    ∃ x, ok x ∧ (enc x).length = vs.length ∧ ∀ (i : Nat) p v, (enc x)[i]? = some p → vs[i]? = some v → VR (env0 (allBelow w) w) p v

theorem opensArgs_nil {P : Program} : OpensArgs P [] (fun _ : Unit => []) (fun _ => True) := by
  intro H en w r base vs ds ps _ h
  cases vs with
  | nil => exact ⟨(), trivial, rfl, by simp⟩
  | cons v vs => cases ds <;> exact h.elim

theorem opensArgs_cons {P : Program} {t : TypeId} {ts : List TypeId} {α β : Type} {e1 : α → AV} {ok1 : α → Prop} {e2 : β → List AV} {ok2 : β → Prop} (h1 : OpensArg P t e1 ok1) (h2 : OpensArgs P ts e2 ok2) :
    OpensArgs P (t :: ts) (fun x : α × β => e1 x.1 :: e2 x.2) (fun x => ok1 x.1 ∧ ok2 x.2) := by
  intro H en w r base vs ds ps hv h
  cases vs with
  | nil => cases ds <;> exact h.elim
  | cons v vs =>
    cases ds with
    | nil => exact h.elim
    | cons d ds =>
      obtain ⟨p, q, hd, hrest, _⟩ := h
      obtain ⟨x, hx, hvx⟩ := h1 H en w r base v d p (hv 0 t v rfl rfl) hd
      obtain ⟨y, hy, hl, hvy⟩ := h2 H en w r base vs ds q (fun j t' v' h h' => hv (j + 1) t' v' (by simpa using h) (by simpa using h')) hrest
      refine ⟨(x, y), ⟨hx, hy⟩, by simp [hl], fun i p v' hp hv' => ?_⟩
      cases i with
      | zero => simp at hp hv'; subst hp; subst hv'; exact hvx
      | succ i => exact hvy i p v' (by simpa using hp) (by simpa using hv')

theorem trodAll_len {H : Type} {en : TypeId × Value → H} {P : Program} {w : World} {base : Nat} {spare : Nat → Bool} {held : Bool} : ∀ (ts : List TypeId) (vs : List Value) (ds : List (DataW H)) (ps : List MemPlace), DataW.TrodAll en P w base spare held ts vs ds ps → ts.length = vs.length ∧ ts.length = ds.length
  | [], [], [], _, _ => ⟨rfl, rfl⟩
  | t :: ts, v :: vs, d :: ds, _, ⟨_, q, _, h, _⟩ => by have := trodAll_len ts vs ds q h; exact ⟨by simp [this.1], by simp [this.2]⟩
  | [], _ :: _, _, _, h => by rename_i x _; cases x <;> exact h.elim
  | [], [], _ :: _, _, h => h.elim
  | _ :: _, [], _, _, h => by rename_i x _; cases x <;> exact h.elim
  | _ :: _, _ :: _, [], _, h => h.elim

theorem trodAll_stays {H : Type} {en : TypeId × Value → H} {P : Program} (hl : laidOutB P = true) {W W' : World} (hb : Below W.heap.size W W') : ∀ (ts : List TypeId) (vs : List Value) (ds : List (DataW H)) (ps : List MemPlace), (∀ t ∈ ts, P.readableRec t = true ∧ t < P.types.size) →
    DataW.TrodAll en P W 0 (fun _ => true) true ts vs ds ps → (∀ x ∈ ps, x.block < W.heap.size) → DataW.TrodAll en P W' 0 (fun b => decide (b < W.heap.size)) true ts vs ds ps
  | [], [], [], _, _, h, _ => h
  | t :: ts, v :: vs, d :: ds, _, ht, ⟨p, q, h1, h2, he⟩, hlt => by
    subst he
    exact ⟨p, q, Below.trod hl (ht t (by simp)).1 (ht t (by simp)).2 h1 hb fun x hx => hlt x (by simp [hx]), trodAll_stays hl hb ts vs ds q (fun t' ht' => ht t' (by simp [ht'])) h2 fun x hx => hlt x (by simp [hx]), rfl⟩
  | [], _ :: _, _, _, _, h, _ => by rename_i x _ _ _; cases x <;> exact h.elim
  | [], [], _ :: _, _, _, h, _ => h.elim
  | _ :: _, [], _, _, _, h, _ => by rename_i x _ _ _; cases x <;> exact h.elim
  | _ :: _, _ :: _, [], _, _, h, _ => h.elim

/-- A law whose contract is proved for every datum meets its row's 'post'. -/
theorem law_calls {P : Program} {f : FuncId} {fn : Func} {s : ChangeSpec} {bt : TypeId} {H : Type} {en : TypeId × Value → H} {α : Type} {enc : α → List AV} {ok : α → Prop} (hl : laidOutB P = true)
    (hts : ∀ t ∈ fn.params.toList, P.readableRec t = true ∧ t < P.types.size) (hvars : s.vars = []) (hres : fn.resultTypes = #[bt]) (hbt : P.underlying bt = some .bool)
    (hfn : ∀ ds : List (DataW H), ds.length = fn.params.toList.length → s.fn H ds = { results := [.lit (.bool true)], args := ds })
    (ho : OpensArgs P fn.params.toList enc ok) (hac : ∀ x, ok x → AC P f (enc x) (.v (.bool true)))
    {W : World} {base : Nat} {args : Array Value} {ds gs : List (DataW H)} {before : List MemPlace} (hval : ∀ (j : Nat) t v, fn.params[j]? = some t → args[j]? = some v → Value.okWide P W .any base t v)
    (hW : DataW.Whole en P fn.params.toList s.vars false W args.toList ds gs before) :
    Calls P f args W fun e W' => ∃ v, e = .returned v ∧ s.post en P fn false true false false W args v W' := by
  have hW' := hW
  obtain ⟨p, q, hA, hV, rfl, hfz, hnd⟩ := hW
  rw [hvars] at hV
  have hgs : gs = [] ∧ q = [] := by
    cases gs with
    | nil => exact ⟨rfl, hV⟩
    | cons g gs => exact hV.elim
  obtain ⟨rfl, rfl⟩ := hgs
  obtain ⟨x, hx, hlen, hv⟩ := ho H en W .any base args.toList ds p (fun j t v ht hv => hval j t v (by simpa using ht) (by simpa using hv)) hA
  refine ((hac x hx).run (allBelow W) W args (fun _ h => h) (by simpa using hlen.symm) fun i p' hp => ?_).mono ?_
  · have hi : i < args.size := by have := (List.getElem?_eq_some_iff.1 hp).1; rw [hlen] at this; simpa using this
    exact hv i p' _ hp (by simp [Array.getD_eq_getD_getElem?, hi])
  · rintro e W' ⟨v, S', rfl, hb, _, _, _, hr⟩
    have hv' : v = .bool true := VR.v_inv (E := env0 S' W') hr
    subst hv'
    have hl2 := (trodAll_len _ _ _ _ hA).2
    have hlt : ∀ x ∈ p, x.block < W.heap.size := fun x hx => hW'.lt x (by simp [hx])
    refine ⟨_, rfl, ds, [], p ++ [], [], p, [], hW', ?_, ?_, ?_, hb.frame _, fun h => by cases h⟩
    · rw [List.append_nil, hfn ds hl2.symm, hres]
      exact ⟨[], [], ⟨1, by simp [DataW.trod, hbt, Value.cells]⟩, rfl, rfl⟩
    · rw [List.append_nil, hfn ds hl2.symm]
      exact trodAll_stays hl hb _ _ _ _ hts hA hlt
    · rw [List.append_nil, hfn ds hl2.symm, hvars]; rfl

end Go.Abs

-- part Fm
namespace Go.Abs
open Go Go.RowKit

def noFresh : AV → Bool
  | .fresh .. => false
  | .tup rs => rs.all fun r => !r.isFresh
  | _ => true

theorem takeComps_noFresh (d : Nat) (st : St) : ∀ (rs : List AV) (i : Nat), (rs.all fun r => !r.isFresh) = true → St.takeComps d i rs st = (st, rs)
  | [], _, _ => rfl
  | r :: rs, i, h => by
    simp only [List.all_cons, Bool.and_eq_true] at h
    have ih := takeComps_noFresh d st rs (i + 1) h.2
    cases r <;> first | (simp [AV.isFresh] at h; done) | (simp only [St.takeComps, ih])

theorem take_noFresh (d : Nat) (st : St) (r : AV) (h : noFresh r = true) : St.take d r st = (st, r) := by
  cases r with
  | fresh _ _ _ => cases h
  | tup rs => simp only [St.take, takeComps_noFresh d st rs 0 h]
  | _ => rfl

/-- A call that leaves the walk's own memory alone, its result frozen. -/
def CalmCall (G : Ctx) (st : St) (g : FuncId) (args : List AV) (r : AV) : Prop :=
  (AC G.P g args r ∨ (AC G.P g (args.map (borrow st)) r ∧ FlatR r)) ∧ noFresh r = true

/-- An operation that changes no memory of the walk's own. -/
def CalmStep (G : Ctx) (st : St) (o : Oper) (r : AV) : Prop :=
  match o.op with
  | .box _ x => o.dst.isSome = true ∧ okCells st (st.ev x) = true ∧ r = .eptr (st.ev x).cells 0
  | .build t parts => buildAV G.P st t parts = some r
  | .buildSlice t len parts => o.dst.isSome = true ∧ ∃ e sz xs, litAV G.P st t len parts = some (e, sz, xs) ∧ r = .lst sz xs
  | .call c => match c.callee with
    | .builtin .len => evalV G.P st o.op = some r
    | .builtin _ => False
    | .value f => match st.ev f with
      | .fn (.func g) first captured => CalmCall G st g (first ++ (c.args.toList.map st.ev ++ captured)) r
      | _ => False
    | .invoke .. => False
  | .alloc _ | .store .. | .select .. => False
  | op => evalV G.P st op = some r

theorem CalmStep.vc {G : Ctx} {st : St} {o : Oper} {r : AV} {K : St → Prop} (hd : dstOK G.n o.dst) (h : CalmStep G st o r) (hk : K (st.put o.dst r)) : vcOp G [] K o st := by
  unfold CalmStep at h
  unfold vcOp
  cases ho : o.op with
  | box t x =>
    simp only [ho] at h ⊢
    obtain ⟨h1, h2, rfl⟩ := h
    cases hdd : o.dst with
    | none => simp [hdd] at h1
    | some d => rw [hdd] at hk; exact ⟨h2, by show (if d ∈ ([] : List Nat) then _ else _); rw [if_neg (by simp)]; exact hk⟩
  | build t parts => simp only [ho] at h ⊢; exact ⟨r, h, hk⟩
  | buildSlice t len parts =>
    simp only [ho] at h ⊢
    obtain ⟨h1, e, sz, xs, h2, rfl⟩ := h
    cases hdd : o.dst with
    | none => simp [hdd] at h1
    | some d => rw [hdd] at hk; exact ⟨(e, sz, xs), h2, by show (if d ∈ ([] : List Nat) then _ else _); rw [if_neg (by simp)]; exact hk⟩
  | call c =>
    simp only [ho] at h ⊢
    cases hc : c.callee with
    | builtin b =>
      simp only [hc] at h ⊢
      cases b <;> first | (exact h.elim) | exact ⟨r, h, hk⟩
    | invoke _ _ => simp only [hc] at h
    | value f =>
      simp only [hc] at h ⊢
      split at h
      · rename_i g first captured hf
        simp only [hf]
        obtain ⟨h1, h2⟩ := h
        have ht := take_noFresh (G.ids (o.dst.getD 0)) st r h2
        rcases h1 with h1 | ⟨h1, h3⟩
        · exact .inl ⟨g, first, captured, rfl, CallSem.pure h1 hd (by rw [ht]; exact hk)⟩
        · exact .inl ⟨g, first, captured, rfl, CallSem.lent h1 h3 hd (by rw [ht]; exact hk)⟩
      · exact h.elim
  | binOp op t x y k =>
    simp only [ho] at h ⊢
    exact .inr ⟨nilSrc_of_bin (st := st) (show binAV G.P op t (st.ev x) (st.ev y) = some r from h), r, h, hk⟩
  | alloc _ => simp only [ho] at h
  | store _ _ _ => simp only [ho] at h
  | select _ _ => simp only [ho] at h
  | makeSlice _ _ _ => simp only [ho] at h; cases h
  | makeMap _ _ => simp only [ho] at h; cases h
  | mapUpdate _ _ _ _ => simp only [ho] at h; cases h
  | range _ _ => simp only [ho] at h; cases h
  | next _ _ => simp only [ho] at h; cases h
  | entry _ => simp only [ho] at h; cases h
  | slice t x lo hi mx =>
    simp only [ho] at h ⊢
    cases hx : st.ev x with
    | rptr id k i j =>
      have h' : sliceAV G.P st t lo hi mx (st.ev x) = some r := h
      rw [hx] at h'
      cases h'
    | _ => exact ⟨r, h, hk⟩
  | _ => simp only [ho] at h ⊢; exact ⟨r, h, hk⟩

/-! ### It hangs on the operands alone -/

section
variable {G : Ctx} {st : St} {σ' : Nat → AV}

theorem okCell_σ (p : AV) : okCell { st with σ := σ' } p = okCell st p := by cases p <;> rfl
theorem okCells_σ (p : AV) : okCells { st with σ := σ' } p = okCells st p := by
  unfold okCells; rw [show okCell { st with σ := σ' } = okCell st from funext okCell_σ]
theorem ldCells_σ (m : Nat) (p : AV) : ldCells { st with σ := σ' } m p = ldCells st m p := by cases p <;> rfl
theorem ldAV_σ (t : TypeId) (p : AV) : ldAV G.P { st with σ := σ' } t p = ldAV G.P st t p := by simp only [ldAV, ldCells_σ]
theorem fieldAddrAV_σ (t : TypeId) (f : Nat) (p : AV) : fieldAddrAV G.P { st with σ := σ' } t f p = fieldAddrAV G.P st t f p := by cases p <;> rfl
theorem indexAddrAV_σ (t : TypeId) (p q : AV) : indexAddrAV G.P { st with σ := σ' } t p q = indexAddrAV G.P st t p q := by unfold indexAddrAV; rfl
theorem lenAV_σ (t : TypeId) (p : AV) : lenAV G.P { st with σ := σ' } t p = lenAV G.P st t p := by unfold lenAV; rfl
theorem lookupAV_σ (t : TypeId) (ok : Bool) (p q : AV) : lookupAV G.P { st with σ := σ' } t ok p q = lookupAV G.P st t ok p q := by unfold lookupAV; rfl
theorem borrow_σ (p : AV) : borrow { st with σ := σ' } p = borrow st p := by
  have h0 : borrow0 { st with σ := σ' } = borrow0 st := by funext q; cases q <;> rfl
  have h1 : borrow1 { st with σ := σ' } = borrow1 st := by funext q; unfold borrow1; rw [h0]
  unfold borrow; rw [h1]

theorem boundAV_σ (d : Nat) (x : Option Operand) (hx : ∀ o, x = some o → St.ev { st with σ := σ' } o = st.ev o) : boundAV { st with σ := σ' } d x = boundAV st d x := by
  cases x with
  | none => rfl
  | some o => simp only [boundAV, hx o rfl]

theorem evParts_σ (parts : Array (Nat × Operand)) (hp : ∀ x ∈ (parts.toList.map (·.2)).toArray, St.ev { st with σ := σ' } x = st.ev x) : evParts { st with σ := σ' } parts = evParts st parts := by
  unfold evParts
  refine List.map_congr_left fun x hx => ?_
  rw [hp x.2 (by simpa using ⟨x.1, by simpa using hx⟩)]

theorem CalmStep.of_same {o : Oper} {r : AV} (he : ∀ x ∈ o.op.operands, St.ev { st with σ := σ' } x = st.ev x) (hc : CalmStep G st o r) : CalmStep G { st with σ := σ' } o r := by
  unfold CalmStep at hc ⊢
  cases ho : o.op with
  | box t x =>
    rw [ho] at he
    simp only [ho] at hc ⊢
    rw [he x (by simp [Op.operands]), okCells_σ]; exact hc
  | build t parts =>
    rw [ho] at he
    simp only [ho] at hc ⊢
    unfold buildAV at hc ⊢
    rw [evParts_σ parts (by simpa [Op.operands] using he)]
    simp only [okCells_σ]; exact hc
  | buildSlice t len parts =>
    rw [ho] at he
    simp only [ho] at hc ⊢
    obtain ⟨h1, e, sz, xs, h2, h3⟩ := hc
    refine ⟨h1, e, sz, xs, ?_, h3⟩
    unfold litAV at h2 ⊢
    rw [evParts_σ parts (by simpa [Op.operands] using he)]
    simp only [okCells_σ]; exact h2
  | call c =>
    rw [ho] at he
    simp only [ho] at hc ⊢
    cases hcal : c.callee with
    | builtin b =>
      simp only [hcal] at hc ⊢
      cases b <;> first | (exact hc.elim) | skip
      unfold evalV at hc ⊢
      simp only [hcal] at hc ⊢
      split at hc
      · rename_i x t hargs htypes
        have : x ∈ c.args := by rw [← Array.mem_toList_iff, hargs]; simp
        rw [he x (by simp [Op.operands, Call.operands, this]), lenAV_σ]; exact hc
      · cases hc
    | invoke _ _ => simp only [hcal] at hc
    | value f =>
      simp only [hcal] at hc ⊢
      rw [he f (by simp [Op.operands, Call.operands, hcal])]
      have hargs : c.args.toList.map (St.ev { st with σ := σ' }) = c.args.toList.map st.ev := List.map_congr_left fun x hx => he x (by simp [Op.operands, Call.operands, Array.mem_toList_iff.1 hx])
      rw [hargs]
      split at hc
      · rename_i g first captured hf
        unfold CalmCall at hc ⊢
        have hb : borrow { st with σ := σ' } = borrow st := funext borrow_σ
        rw [hb]; exact hc
      · exact hc.elim
  | alloc _ => simp only [ho] at hc
  | store _ _ _ => simp only [ho] at hc
  | select _ _ => simp only [ho] at hc
  | slice t x lo hi mx =>
    rw [ho] at he
    simp only [ho] at hc ⊢
    unfold evalV at hc ⊢
    simp only [Op.operands] at he
    have hx : St.ev { st with σ := σ' } x = st.ev x := he x (by simp)
    have hl : ∀ o, lo = some o → St.ev { st with σ := σ' } o = st.ev o := fun o h => he o (by simp [h])
    have hh : ∀ o, hi = some o → St.ev { st with σ := σ' } o = st.ev o := fun o h => he o (by simp [h])
    have hm : ∀ o, mx = some o → St.ev { st with σ := σ' } o = st.ev o := fun o h => he o (by simp [h])
    simp only [hx] at hc ⊢
    have e : sliceAV G.P { st with σ := σ' } t lo hi mx (st.ev x) = sliceAV G.P st t lo hi mx (st.ev x) := by
      unfold sliceAV
      split
      · rw [boundAV_σ _ _ hl, boundAV_σ _ _ hh]
      · rw [boundAV_σ _ _ hl, boundAV_σ _ _ hh, boundAV_σ _ _ hm]
      · simp only [boundAV_σ _ _ hl, boundAV_σ _ _ hh, boundAV_σ _ _ hm]
      · simp only [boundAV_σ _ _ hl, boundAV_σ _ _ hh]
      · rfl
    rw [e]; exact hc
  | makeFunc f first captured =>
    rw [ho] at he
    simp only [ho] at hc ⊢
    unfold evalV at hc ⊢
    simp only [Op.operands] at he
    have h1 : first.toList.map (St.ev { st with σ := σ' }) = first.toList.map st.ev := List.map_congr_left fun x hx => he x (by simp [Array.mem_toList_iff.1 hx])
    have h2 : captured.toList.map (St.ev { st with σ := σ' }) = captured.toList.map st.ev := List.map_congr_left fun x hx => he x (by simp [Array.mem_toList_iff.1 hx])
    simp only [h1, h2]; exact hc
  | move x => rw [ho] at he; simp only [ho, evalV, Op.operands] at *; rw [he x (by simp)]; exact hc
  | assign x => rw [ho] at he; simp only [ho, evalV, Op.operands] at *; rw [he x (by simp)]; exact hc
  | pick c x y => rw [ho] at he; simp only [ho, evalV, Op.operands] at *; rw [he c (by simp), he x (by simp), he y (by simp)]; exact hc
  | load t x => rw [ho] at he; simp only [ho, evalV, Op.operands] at *; rw [he x (by simp), ldAV_σ]; exact hc
  | binOp op t x y yt => rw [ho] at he; simp only [ho, evalV, Op.operands] at *; rw [he x (by simp), he y (by simp)]; exact hc
  | unOp op t x => rw [ho] at he; simp only [ho, evalV, Op.operands] at *; rw [he x (by simp)]; exact hc
  | convert s d x => rw [ho] at he; simp only [ho, evalV, Op.operands] at *; rw [he x (by simp)]; exact hc
  | fieldAddr t x f => rw [ho] at he; simp only [ho, evalV, Op.operands] at *; rw [he x (by simp), fieldAddrAV_σ]; exact hc
  | field t x f => rw [ho] at he; simp only [ho, evalV, Op.operands] at *; rw [he x (by simp)]; exact hc
  | indexAddr t x i => rw [ho] at he; simp only [ho, evalV, Op.operands] at *; rw [he x (by simp), he i (by simp), indexAddrAV_σ]; exact hc
  | index t x i => rw [ho] at he; simp only [ho, evalV, Op.operands] at *; rw [he x (by simp), he i (by simp)]; exact hc
  | extract x i => rw [ho] at he; simp only [ho, evalV, Op.operands] at *; rw [he x (by simp)]; exact hc
  | lookup t m k ok => rw [ho] at he; simp only [ho, evalV, Op.operands] at *; rw [he m (by simp), he k (by simp), lookupAV_σ]; exact hc
  | _ => simp only [ho, evalV] at hc; first | (cases hc; done) | skip

end

/-! ### Any order -/

def AYields (G : Ctx) (ops : Array Oper) (st : St) (o : Oper) (r : AV) : Prop :=
  dstOK G.n o.dst ∧ match o.guard with
  | none => CalmStep G st o r
  | some (j, want) => ∃ t b, guardSlot ops j = some t ∧ guardV (st.σ t) want = some b ∧ if b = true then CalmStep G st o r else r = .v undef

section
variable {G : Ctx} {ops : Array Oper} {md : Region.Mode}

theorem put_eq (st : St) (d : Option Tmp) (r : AV) : st.put d r = { st with σ := (st.put d r).σ } := by cases d <;> rfl

theorem AYields.of_put {st : St} {o : Oper} {r : AV} {d : Option Tmp} {u : AV} (h : ∀ x, d = some x → x ∉ o.looksAt ops) (hy : AYields G ops st o r) : AYields G ops (st.put d u) o r := by
  have hev : ∀ x ∈ o.op.operands, St.ev (st.put d u) x = st.ev x := by
    intro x hx
    cases d with
    | none => rfl
    | some e =>
      cases x with
      | tmp t =>
        have hne : t ≠ e := fun he => h e rfl (by subst he; exact List.mem_append_left _ (List.mem_filterMap.2 ⟨.tmp t, by simpa using hx, rfl⟩))
        simp [St.ev, St.put, upd, hne]
      | _ => rfl
  have hcalm : CalmStep G st o r → CalmStep G (st.put d u) o r := fun hc => by
    rw [put_eq] at hev ⊢
    exact CalmStep.of_same hev hc
  refine ⟨hy.1, ?_⟩
  have hy2 := hy.2
  cases hg : o.guard with
  | none => simp only [hg] at hy2 ⊢; exact hcalm hy2
  | some jw =>
    obtain ⟨j, want⟩ := jw
    simp only [hg] at hy2 ⊢
    obtain ⟨t, b, h1, h2, h3⟩ := hy2
    refine ⟨t, b, h1, ?_, ?_⟩
    · cases d with
      | none => exact h2
      | some e =>
        have hne : t ≠ e := fun he => h e rfl (by subst he; unfold guardSlot at h1; simp [Oper.looksAt, hg, h1])
        simp only [St.put, upd, hne, if_false]; exact h2
    · split
      · rename_i hb; rw [if_pos hb] at h3; exact hcalm h3
      · rename_i hb; rw [if_neg hb] at h3; exact h3

theorem St.put_comm (st : St) {x y : Option Tmp} (v u : AV) (h : ∀ d, x = some d → y ≠ some d) : (st.put x v).put y u = (st.put y u).put x v := by
  cases x with
  | none => rfl
  | some d =>
    cases y with
    | none => rfl
    | some e =>
      have hne : d ≠ e := fun he => h d rfl (he ▸ rfl)
      simp only [St.put]
      congr 1
      funext j
      simp only [upd]
      by_cases h1 : j = e
      · subst h1; simp [Ne.symm hne]
      · simp [h1]

/-- Whatever order is picked, up to the first 'f' operations, all of them below 'n'; then L. -/
def anyA (G : Ctx) (md : Region.Mode) (ops : Array Oper) (n : Nat) (L : Array Bool → St → Prop) : Nat → Array Bool → St → Prop
  | 0, listed, st => L listed st
  | f + 1, listed, st => Region.ready md ops listed ≠ [] ∧ ∀ i ∈ Region.ready md ops listed, i < n ∧ ∃ o r, ops[i]? = some o ∧ AYields G ops st o r ∧ anyA G md ops n L f (listed.setIfInBounds i true) (st.put o.dst r)

theorem anyA_first {n i : Nat} {oi : Oper} {v : AV} {L : Array Bool → St → Prop} (hi : ops[i]? = some oi) (hin : i < n)
    (tail : ∀ listed, HeadInv md ops n listed → i ∈ Region.ready md ops listed → ∀ t, n ≤ t → t ∉ Region.ready md ops listed) (hdone : ∀ listed st, L listed st → ∀ j ∈ Region.ready md ops listed, n ≤ j) :
    ∀ (f : Nat) (listed : Array Bool) (st : St), HeadInv md ops n listed →
      (∀ j oj, ops[j]? = some oj → j ≠ i → listed.getD j true = false → (∀ e ∈ oj.after, Region.binds md e = true → e.on ≠ i) → oi.apart ops oj = true) →
      i ∈ Region.ready md ops listed → AYields G ops st oi v → anyA G md ops n L f (listed.setIfInBounds i true) (st.put oi.dst v) → anyA G md ops n L (f + 1) listed st := by
  intro f
  induction f with
  | zero =>
    intro listed st inv _ hr hy H
    refine ⟨fun h => (by rw [h] at hr; cases hr), fun j hj => ?_⟩
    have hjn : j < n := by
      rcases Nat.lt_or_ge j n with h | h
      · exact h
      · exact absurd hj (tail listed inv hr j h)
    refine ⟨hjn, ?_⟩
    by_cases hji : j = i
    · subst hji; exact ⟨oi, v, hi, hy, H⟩
    · have := hdone _ _ H j (ready_mono hj hji)
      omega
  | succ f ih =>
    intro listed st inv hfree hr hy H
    refine ⟨fun h => (by rw [h] at hr; cases hr), fun j hj => ?_⟩
    have hjn : j < n := by
      rcases Nat.lt_or_ge j n with h | h
      · exact h
      · exact absurd hj (tail listed inv hr j h)
    refine ⟨hjn, ?_⟩
    by_cases hji : j = i
    · subst hji; exact ⟨oi, v, hi, hy, H⟩
    · obtain ⟨_, oj, rj, hoj, hyj, H1⟩ := H.2 j (ready_mono hj hji)
      obtain ⟨hjun, oj', hoj', hall⟩ := mem_ready.1 hj
      have : oj' = oj := Option.some.inj (hoj'.symm.trans hoj)
      subst this
      have hun := (mem_ready.1 hr).1
      have hnot : ∀ e ∈ oj'.after, Region.binds md e = true → e.on ≠ i := fun e he hb heq => by
        have h1 := hall e he hb
        rw [heq, getD_both hun] at h1
        cases h1
      have hap := hfree j oj' hoj hji hjun hnot
      obtain ⟨a1, a2, a3⟩ := Oper.apart_spec hap
      have hyj' : AYields G ops st oj' rj := by
        -- the state without oi's value: that slot is not looked at
        have hput : ∀ x, oi.dst = some x → x ∉ oj'.looksAt ops := a1
        have h2 := AYields.of_put (u := match oi.dst with | some d => st.σ d | none => .junk) hput hyj
        have hback : (st.put oi.dst v).put oi.dst (match oi.dst with | some d => st.σ d | none => .junk) = st := by
          cases oi.dst with
          | none => rfl
          | some d =>
            simp only [St.put]
            have : upd (upd st.σ d v) d (st.σ d) = st.σ := by funext k; by_cases hk : k = d <;> simp [upd, hk]
            rw [this]
        rw [hback] at h2; exact h2
      refine ⟨oj', rj, hoj, hyj', ?_⟩
      have hfree' : ∀ k ok, ops[k]? = some ok → k ≠ i → (listed.setIfInBounds j true).getD k true = false →
          (∀ e ∈ ok.after, Region.binds md e = true → e.on ≠ i) → oi.apart ops ok = true := fun k ok hk hki hun' hno => by
        refine hfree k ok hk hki ?_ hno
        by_cases hjk : j = k
        · subst hjk; exact hjun
        · rw [getD_set_ne true hjk] at hun'; exact hun'
      refine ih (listed.setIfInBounds j true) _ (inv.set hj hjn) hfree' (ready_mono hr (Ne.symm hji)) (hy.of_put a3) ?_
      rw [Array.setIfInBounds_comm _ _ hji, ← St.put_comm st v rj a2]
      exact H1

/-- The value of an operation that is no call of a function, and changes no memory of the walk's own. -/
def calmV (G : Ctx) (st : St) (o : Oper) : Option AV :=
  match o.op with
  | .box _ x => if o.dst.isSome = true ∧ okCells st (st.ev x) = true then some (.eptr (st.ev x).cells 0) else none
  | .build t parts => buildAV G.P st t parts
  | .buildSlice t len parts => if o.dst.isSome = true then (litAV G.P st t len parts).map fun x => .lst x.2.1 x.2.2 else none
  | .call c => match c.callee with
    | .builtin .len => evalV G.P st o.op
    | _ => none
  | .alloc _ | .store .. | .select .. => none
  | op => evalV G.P st op

def CalmThen (G : Ctx) (g : FuncId) (args : List AV) (K : AV → Prop) (st : St) : Prop := ∃ r, CalmCall G st g args r ∧ K r
@[congr] theorem CalmThen_congr {G : Ctx} {g : FuncId} {args args' : List AV} {K : AV → Prop} {st st' : St} (ha : args = args') (h : st = st') : CalmThen G g args K st = CalmThen G g args' K st' := by rw [ha, h]
theorem CalmThen.pure {G : Ctx} {g : FuncId} {args : List AV} {K : AV → Prop} {st : St} {r : AV} (h : AC G.P g args r) (hn : noFresh r = true) (hk : K r) : CalmThen G g args K st := ⟨r, ⟨.inl h, hn⟩, hk⟩
theorem CalmThen.lent {G : Ctx} {g : FuncId} {args : List AV} {K : AV → Prop} {st : St} {r : AV} (h : AC G.P g (args.map (borrow st)) r) (hf : FlatR r) (hn : noFresh r = true) (hk : K r) : CalmThen G g args K st := ⟨r, ⟨.inr ⟨h, hf⟩, hn⟩, hk⟩

def calmThen (G : Ctx) (o : Oper) (K : AV → Prop) (st : St) : Prop :=
  match o.op with
  | .call c => match c.callee with
    | .value f => onFn (st.ev f) fun g first captured => CalmThen G g (first ++ (c.args.toList.map st.ev ++ captured)) K st
    | _ => bindP (calmV G st o) K
  | _ => bindP (calmV G st o) K
@[congr] theorem calmThen_congr {G : Ctx} {o : Oper} {K : AV → Prop} {st st' : St} (h : st = st') : calmThen G o K st = calmThen G o K st' := by rw [h]

theorem calmThen_step {G : Ctx} {o : Oper} {K : AV → Prop} {st : St} (h : calmThen G o K st) : ∃ r, CalmStep G st o r ∧ K r := by
  have val : bindP (calmV G st o) K → ∃ r, CalmStep G st o r ∧ K r := by
    rintro ⟨r, hr, hk⟩
    refine ⟨r, ?_, hk⟩
    unfold calmV at hr
    unfold CalmStep
    cases ho : o.op with
    | box t x =>
      simp only [ho] at hr ⊢
      split at hr
      · rename_i hc; cases hr; exact ⟨hc.1, hc.2, rfl⟩
      · cases hr
    | build t parts => simp only [ho] at hr ⊢; exact hr
    | buildSlice t len parts =>
      simp only [ho] at hr ⊢
      split at hr
      · rename_i hc
        obtain ⟨⟨e, sz, xs⟩, h1, rfl⟩ := Option.map_eq_some_iff.1 hr
        exact ⟨hc, e, sz, xs, h1, rfl⟩
      · cases hr
    | call c =>
      simp only [ho] at hr ⊢
      cases hc : c.callee with
      | builtin b => simp only [hc] at hr ⊢; cases b <;> first | (cases hr; done) | exact hr
      | invoke _ _ => simp only [hc] at hr; cases hr
      | value f => simp only [hc] at hr; cases hr
    | alloc _ => simp only [ho] at hr; cases hr
    | store _ _ _ => simp only [ho] at hr; cases hr
    | select _ _ => simp only [ho] at hr; cases hr
    | _ => simp only [ho] at hr ⊢; exact hr
  unfold calmThen at h
  split at h
  · rename_i c ho
    split at h
    · rename_i f hc
      obtain ⟨g, first, captured, hf, r, h1, h2⟩ := h
      refine ⟨r, ?_, h2⟩
      unfold CalmStep
      simp only [ho, hc, hf]
      exact h1
    · exact val h
  · exact val h

/-- The walk in the order of the text. -/
def vcCalm (G : Ctx) (ops : Array Oper) (Q : St → Prop) : List Oper → St → Prop
  | [], st => Q st
  | o :: rest, st => dstOK G.n o.dst ∧ match o.guard with
    | none => calmThen G o (fun r => vcCalm G ops Q rest (st.put o.dst r)) st
    | some (j, want) => match guardSlot ops j with
      | some t => bindP (guardV (st.σ t) want) fun b => if b = true then calmThen G o (fun r => vcCalm G ops Q rest (st.put o.dst r)) st else vcCalm G ops Q rest (st.put o.dst (.v undef))
      | none => False

theorem vcCalm_yields {Q : St → Prop} {o : Oper} {rest : List Oper} {st : St} (h : vcCalm G ops Q (o :: rest) st) : ∃ r, AYields G ops st o r ∧ vcCalm G ops Q rest (st.put o.dst r) := by
  obtain ⟨hd, h⟩ := h
  cases hg : o.guard with
  | none =>
    simp only [hg] at h
    obtain ⟨r, h1, h2⟩ := calmThen_step h
    exact ⟨r, ⟨hd, by simp only [hg]; exact h1⟩, h2⟩
  | some jw =>
    obtain ⟨j, want⟩ := jw
    simp only [hg] at h
    split at h
    · rename_i t ht
      · obtain ⟨b, hb, h⟩ := h
        by_cases hbw : b = true
        · rw [if_pos hbw] at h
          obtain ⟨r, h1, h2⟩ := calmThen_step h
          exact ⟨r, ⟨hd, by simp only [hg]; exact ⟨t, b, ht, hb, by rw [if_pos hbw]; exact h1⟩⟩, h2⟩
        · rw [if_neg hbw] at h
          exact ⟨.v undef, ⟨hd, by simp only [hg]; exact ⟨t, b, ht, hb, by simp [hbw]⟩⟩, h⟩
    · exact h.elim

theorem anyA_lex {n g : Nat} {Q : St → Prop} (hs : Region.sinkB md ops n = true) (hc : Region.chainB md ops n = true) (hn : n < ops.size) :
    ∀ (l : List Oper) (k : Nat) (listed : Array Bool) (st : St), (∀ j, j < l.length → l[j]? = ops[k + j]?) → k + l.length = n → HeadInv md ops n listed →
    Region.lexHead md ops g l.length k listed = true → vcCalm G ops Q l st → anyA G md ops n (fun listed' st' => Region.seqB md ops g n listed' = true ∧ Q st') l.length listed st
  | [], k, listed, st, _, hk, _, hB, h => by
    have : k = n := by simpa using hk
    subst this
    exact ⟨by simpa [Region.lexHead] using hB, h⟩
  | o :: l, k, listed, st, hl, hk, inv, hB, h => by
    have h0 : ops[k]? = some o := by simpa using (hl 0 (by simp)).symm
    simp only [List.length_cons, Region.lexHead, Bool.and_eq_true] at hB
    obtain ⟨⟨hr, hf⟩, hB'⟩ := hB
    have hkn : k < n := by simp only [List.length_cons] at hk; omega
    have hr' : k ∈ Region.ready md ops listed := by simpa using hr
    obtain ⟨r, hy, hK⟩ := vcCalm_yields h
    exact anyA_first h0 hkn (fun listed inv hr => tail_waits hs hc hn inv _ k rfl hkn (mem_ready.1 hr).1) (fun listed' st' hL => seqB_ready hL.1) l.length listed st inv (Region.free_spec h0 hf) hr' hy
      (anyA_lex hs hc hn l (k + 1) _ _ (fun j hj => by have := hl (j + 1) (by simp; omega); simpa [Nat.add_assoc, Nat.add_comm 1 j] using this) (by simp only [List.length_cons] at hk; omega) (inv.set hr' hkn) hB' hK)

theorem wpAnyIn_of_seq {Q' : Exit → Act → World → Prop} : ∀ (l : List Oper) (k : Nat) (listed : Array Bool) (a : Act) (w : World), (∀ j, l[j]? = ops[k + j]?) →
    Region.seqB md ops l.length k listed = true → wpListIn G.F 0 G.P ops Q' l a w → wpAnyIn G.F 0 G.P md ops Q' l.length listed a w
  | [], _, _, _, _, _, hB, h => ⟨by simpa [Region.seqB] using hB, h⟩
  | o :: l, k, listed, a, w, hl, hB, h => by
    have h0 : ops[k]? = some o := by simpa using (hl 0).symm
    simp only [List.length_cons, Region.seqB, Bool.and_eq_true, decide_eq_true_eq] at hB
    refine ⟨fun h1 => (by rw [hB.1] at h1; cases h1), fun i hi => ?_⟩
    rw [hB.1] at hi
    have hik : i = k := by simpa using hi
    subst hik
    have hw : wpOpIn G.F 0 G.P ops Q' i (wpListIn G.F 0 G.P ops Q' l) a w := by unfold wpOpIn; simp only [h0]; exact h
    exact wpOpIn_mono (fun a' w' h' => wpAnyIn_of_seq l (i + 1) _ a' w' (fun j => by have := hl (j + 1); simpa [Nat.add_assoc, Nat.add_comm 1 j] using this) hB.2 h') hw

theorem wpAny_of_anyA {n g : Nat} {L : Array Bool → St → Prop} {Q' : Exit → Act → World → Prop} (hL : ∀ listed st E a, Rel G st E a → L listed st → wpAnyIn G.F 0 G.P md ops Q' g listed a E.w) :
    ∀ (f : Nat) (listed : Array Bool) (st : St) (E : Env) (a : Act), Rel G st E a → anyA G md ops n L f listed st → wpAnyIn G.F 0 G.P md ops Q' (f + g) listed a E.w
  | 0, listed, st, E, a, hr, h => by rw [Nat.zero_add]; exact hL _ _ _ _ hr h
  | f + 1, listed, st, E, a, hr, h => by
    rw [show f + 1 + g = (f + g) + 1 by omega]
    refine ⟨fun h0 => absurd h0 h.1, fun i hi => ?_⟩
    obtain ⟨_, o, r, ho, hy, hrest⟩ := h.2 i hi
    have ih := wpAny_of_anyA (n := n) hL f (listed.setIfInBounds i true)
    obtain ⟨hd, hy⟩ := hy
    have go : CalmStep G st o r → o.wpIn G.F 0 G.P a E.w (wpAnyIn G.F 0 G.P md ops Q' (f + g) (listed.setIfInBounds i true)) Q' := fun hc =>
      Oper.wpIn_mono (fun a' w' ⟨st', E', hw, hrel, hk⟩ => by subst hw; exact ih st' E' a' hrel hk) (vcOp_sound [] (K := fun st' => anyA G md ops n L f (listed.setIfInBounds i true) st') hd hr (hc.vc hd hrest))
    unfold wpOpIn
    simp only [ho]
    unfold Region.wanted
    cases hg : o.guard with
    | none => simp only [hg] at hy; simp only [if_true]; exact go hy
    | some jw =>
      obtain ⟨j, want⟩ := jw
      simp only [hg] at hy
      obtain ⟨t, b, ht, hb, hyy⟩ := hy
      simp only [guardV_sound hr ht hb]
      cases b with
      | true =>
        simp only [if_true] at hyy ⊢
        exact go hyy
      | false =>
        simp only [Bool.false_eq_true, if_false] at hyy ⊢
        subst hyy
        exact ⟨fun _ _ => trivial, ih _ E _ (hr.put (.v undef) (fun d he => by rw [he] at hd; exact hd)) hrest⟩

theorem Rel.drew {st : St} {E : Env} {a : Act} (hr : Rel G st E a) : Rel G st { E with w := { E.w with drawn := E.w.drawn + 1 } } a :=
  hr.later (E' := { E with w := { E.w with drawn := E.w.drawn + 1 } }) ⟨fun _ h => h, fun _ _ => rfl, fun _ => Nat.le_refl _, fun _ _ => rfl⟩ rfl hr.below.drew hr.Slt (fun _ h => .inl h) fun _ _ => rfl

/-- A region that draws its order: calm operations in whatever order, then a chain. -/
theorem AWp.draw {id n : Nat} {l : List Oper} {Q : Exit → St → Prop} {st : St} (own : List Nat) (hm : G.P.follows .mixedOrders = true) (hB : Region.lexTailB .any l.toArray n = true)
    (h : vcCalm G l.toArray (fun st' => vcOps G own l.toArray (Q .normal) (l.drop n) st') (l.take n) st) : AWp G (.region id l.toArray true) Q st := fun E a hr => by
  simp only [Region.lexTailB, Bool.and_eq_true, decide_eq_true_eq] at hB
  obtain ⟨⟨⟨⟨hsel, hn⟩, hs⟩, hc⟩, hlex⟩ := hB
  have hn' : n < l.length := by simpa using hn
  have htl : (l.take n).length = n := by simp; omega
  have hdl : (l.drop n).length = l.toArray.size - n := by simp
  have inv0 : HeadInv .any l.toArray n (Array.replicate l.toArray.size false) :=
    ⟨by simp, fun j oj _ hl => (by rw [getD_replicate_false] at hl; cases hl), fun t _ ht => getD_in (by simpa using ht) (getD_replicate_false _ _)⟩
  have H := anyA_lex (G := G) (md := .any) (g := l.toArray.size - n) hs hc hn (l.take n) 0 _ st (fun j hj => by
    have hj' : j < n := by rw [htl] at hj; exact hj
    simp [hj']) (by simpa using htl) inv0 (by rw [htl]; exact hlex) h
  refine wpIn_region_any hm ?_
  have := wpAny_of_anyA (G := G) (Q' := fun e a' w' => ∃ st' E', E'.w = w' ∧ Rel G st' E' a' ∧ Q e st') (g := l.toArray.size - n) (fun listed st' E' a' hr' hL => by
    have := wpAnyIn_of_seq (G := G) (md := .any) (Q' := fun e a' w' => ∃ st' E', E'.w = w' ∧ Rel G st' E' a' ∧ Q e st') (l.drop n) n listed a' E'.w (fun j => by simp [List.getElem?_drop]) (by rw [hdl]; exact hL.1)
      (vcOps_sound own (l.drop n) st' E' a' hr' hL.2 fun st'' E'' _ hr'' hq => ⟨st'', E'', rfl, hr'', hq⟩)
    rwa [hdl] at this) _ _ _ _ _ hr.drew H
  rw [htl, show n + (l.toArray.size - n) = l.toArray.size by omega] at this
  exact this

/-- The same where every operation is calm. -/
theorem AWp.drawAll {id : Nat} {l : List Oper} {Q : Exit → St → Prop} {st : St} (hm : G.P.follows .mixedOrders = true) (hB : Region.lexB .any l.toArray = true)
    (h : vcCalm G l.toArray (Q .normal) l st) : AWp G (.region id l.toArray true) Q st := fun E a hr => by
  simp only [Region.lexB, Bool.and_eq_true] at hB
  refine wpIn_region_any hm ?_
  have inv0 : HeadInv .any l.toArray l.toArray.size (Array.replicate l.toArray.size false) :=
    ⟨by simp, fun j oj _ hl => (by rw [getD_replicate_false] at hl; cases hl), fun t h1 h2 => by omega⟩
  have lex : ∀ (l' : List Oper) (k : Nat) (listed : Array Bool) (st : St), (∀ j, l'[j]? = l.toArray[k + j]?) → HeadInv .any l.toArray l.toArray.size listed → Region.lexFrom .any l.toArray l'.length k listed = true → vcCalm G l.toArray (Q .normal) l' st →
      anyA G .any l.toArray l.toArray.size (fun listed' st' => Region.ready .any l.toArray listed' = [] ∧ Q .normal st') l'.length listed st := by
    intro l'
    induction l' with
    | nil => intro k listed st _ _ hB h; exact ⟨by simpa [Region.lexFrom] using hB, h⟩
    | cons o l' ih =>
      intro k listed st hl inv hB h
      have h0 : l.toArray[k]? = some o := by simpa using (hl 0).symm
      simp only [List.length_cons, Region.lexFrom, Bool.and_eq_true] at hB
      obtain ⟨⟨hr, hf⟩, hB'⟩ := hB
      have hkn : k < l.toArray.size := (Array.getElem?_eq_some_iff.1 h0).1
      have hr' : k ∈ Region.ready .any l.toArray listed := by simpa using hr
      obtain ⟨r, hy, hK⟩ := vcCalm_yields h
      exact anyA_first h0 hkn (fun listed inv hr t ht htr => by have := (mem_ready.1 htr).2; obtain ⟨ot, hot, _⟩ := this; have := (Array.getElem?_eq_some_iff.1 hot).1; omega)
        (fun listed' st' hL j hj => by rw [hL.1] at hj; cases hj) l'.length listed st inv (Region.free_spec h0 hf) hr' hy
        (ih (k + 1) _ _ (fun j => by have := hl (j + 1); simpa [Nat.add_assoc, Nat.add_comm 1 j] using this) (inv.set hr' hkn) hB' hK)
  have H := lex l 0 (Array.replicate l.toArray.size false) st (by simp) inv0 (by simpa using hB.2) h
  have := wpAny_of_anyA (G := G) (Q' := fun e a' w' => ∃ st' E', E'.w = w' ∧ Rel G st' E' a' ∧ Q e st') (g := 0) (fun listed st' E' a' hr' hL => ⟨hL.1, st', E', rfl, hr', hL.2⟩) _ _ _ _ _ hr.drew H
  simpa using this

end
@[congr] theorem vcCalm_congr {G : Ctx} {ops : Array Oper} {Q : St → Prop} {l : List Oper} {st st' : St} (h : st = st') : vcCalm G ops Q l st = vcCalm G ops Q l st' := by rw [h]
end Go.Abs

-- part Fn
namespace Go.Abs
open Go Go.RowKit

/-- Does a value lead to none of these own blocks? -/
def dj (X : List Nat) : AV → Bool
  | .ref i _ => !(X.contains i)
  | .rptr i _ _ _ => !(X.contains i)
  | .osl i _ _ _ _ => !(X.contains i)
  | _ => true
def plain0 : AV → Bool
  | .v _ | .lst .. | .eptr .. | .mapv .. | .full .. => true
  | _ => false
def plainAV : AV → Bool
  | .agg cs => cs.all plain0
  | p => plain0 p

/-- May a calm operation stand behind others that write to blocks X (in any way) and Y (cells alone)? -/
def lateB (X Y : List Nat) (st : St) (o : Oper) : Bool :=
  match o.op with
  | .move _ | .assign _ | .pick .. | .binOp .. | .unOp .. | .convert .. | .extract .. | .makeFunc .. | .field .. | .index .. => true
  | .fieldAddr _ x _ => dj X (st.ev x)
  | .indexAddr _ x _ => dj X (st.ev x)
  | .load _ x => dj (X ++ Y) (st.ev x)
  | .slice _ x _ _ _ => plain0 (st.ev x)
  | .build _ parts => parts.toList.all fun p => (st.ev p.2).cells.all (dj X)
  | .buildSlice _ _ parts => parts.toList.all fun p => (st.ev p.2).cells.all (dj X)
  | .box _ x => (st.ev x).cells.all (dj X)
  | .call c => match c.callee with
    | .builtin .len => c.args.toList.all fun x => dj X (st.ev x)
    | .value f => (match st.ev f with
      | .fn _ a b => a.all plainAV && b.all plainAV
      | _ => false) && c.args.toList.all fun x => plainAV (st.ev x)
    | _ => false
  | _ => false

/-- The same make, other cells. -/
def Shape : Blk → Blk → Prop
  | .arr e sz xs, b => ∃ ys, b = .arr e sz ys ∧ ys.length = xs.length
  | .box _, b => ∃ cs, b = .box cs
  | a, b => b = a
theorem Shape.refl (b : Blk) : Shape b b := by cases b <;> first | exact ⟨_, rfl, rfl⟩ | exact ⟨_, rfl⟩ | rfl
theorem Shape.symm {a b : Blk} (h : Shape a b) : Shape b a := by
  cases a with
  | arr e sz xs => obtain ⟨ys, rfl, h⟩ := h; exact ⟨xs, rfl, h.symm⟩
  | box cs => obtain ⟨cs', rfl⟩ := h; exact ⟨cs, rfl⟩
  | _ => cases h; rfl
/-- Two memories that differ at X, and in the cells at Y, alone. -/
def Agree (X Y : List Nat) (st st' : St) : Prop := ∀ id, id ∉ X → st'.ver id = st.ver id ∧ Shape (st.h id) (st'.h id) ∧ (id ∉ Y → st'.h id = st.h id)
theorem Agree.symm {X Y : List Nat} {st st' : St} (h : Agree X Y st st') : Agree X Y st' st := fun id hi => ⟨(h id hi).1.symm, (h id hi).2.1.symm, fun hy => ((h id hi).2.2 hy).symm⟩
theorem Agree.put {X Y : List Nat} {st st' : St} (h : Agree X Y st st') (d d' : Option Tmp) (r r' : AV) : Agree X Y (st.put d r) (st'.put d' r') := by
  cases d <;> cases d' <;> exact h

section
variable {G : Ctx} {st : St} {X Y : List Nat} {ver' : Nat → Nat} {h' : Nat → Blk}
theorem dj_not {i : Nat} (h : (!(X.contains i)) = true) : i ∉ X := by simpa using h
theorem okCell_late (ha : Agree X Y st ⟨st.σ, ver', h'⟩) (p : AV) (hd : dj X p = true) : okCell ⟨st.σ, ver', h'⟩ p = okCell st p := by
  cases p with
  | ref i k =>
    obtain ⟨h1, h2, _⟩ := ha i (dj_not hd)
    simp only at h1 h2
    simp only [okCell, h1]
    congr 1
    cases hh : st.h i with
    | arr e sz xs => rw [hh] at h2; obtain ⟨ys, h3, _⟩ := h2; rw [h3]
    | box cs => rw [hh] at h2; obtain ⟨ys, h3⟩ := h2; rw [h3]
    | none => rw [hh] at h2; rw [show h' i = _ from h2]
    | map _ _ => rw [hh] at h2; rw [show h' i = _ from h2]
    | obj _ => rw [hh] at h2; rw [show h' i = _ from h2]
    | iter _ _ _ => rw [hh] at h2; rw [show h' i = _ from h2]
  | rptr i k n j =>
    obtain ⟨h1, _, _⟩ := ha i (dj_not hd)
    simp only at h1
    simp only [okCell, h1]
  | _ => rfl
theorem okCells_late (ha : Agree X Y st ⟨st.σ, ver', h'⟩) (p : AV) (hd : p.cells.all (dj X) = true) : okCells ⟨st.σ, ver', h'⟩ p = okCells st p := by
  unfold okCells
  rw [Bool.eq_iff_iff, List.all_eq_true, List.all_eq_true]
  rw [List.all_eq_true] at hd
  exact ⟨fun h c hc => by rw [← okCell_late ha c (hd c hc)]; exact h c hc, fun h c hc => by rw [okCell_late ha c (hd c hc)]; exact h c hc⟩
theorem parts_late (ha : Agree X Y st ⟨st.σ, ver', h'⟩) (parts : Array (Nat × Operand)) (hd : (parts.toList.all fun p => (st.ev p.2).cells.all (dj X)) = true) (f : AV → Bool) :
    ((evParts st parts).all fun x => okCells ⟨st.σ, ver', h'⟩ x.2 && f x.2) = ((evParts st parts).all fun x => okCells st x.2 && f x.2) := by
  unfold evParts
  rw [Bool.eq_iff_iff, List.all_eq_true, List.all_eq_true]
  rw [List.all_eq_true] at hd
  constructor
  · intro h x hx
    obtain ⟨p, hp, rfl⟩ := List.mem_map.1 hx
    have := h _ hx
    rwa [okCells_late ha _ (hd p hp)] at this
  · intro h x hx
    obtain ⟨p, hp, rfl⟩ := List.mem_map.1 hx
    have := h _ hx
    rwa [okCells_late ha _ (hd p hp)]
theorem borrow_plain (st st' : St) (p : AV) (h : plainAV p = true) : borrow st p = borrow st' p := by
  have h0 : ∀ q, plain0 q = true → borrow0 st q = borrow0 st' q := fun q hq => by cases q <;> first | rfl | cases hq
  have h1 : ∀ q, plain0 q = true → borrow1 st q = borrow1 st' q := fun q hq => by cases q <;> first | rfl | cases hq
  cases p with
  | agg cs => rfl
  | _ => first | rfl | (cases h; done)
theorem CalmStep.late {o : Oper} {r : AV} (ha : Agree X Y st ⟨st.σ, ver', h'⟩) (hl : lateB X Y st o = true) (hc : CalmStep G st o r) : CalmStep G ⟨st.σ, ver', h'⟩ o r := by
  have hev : ∀ x, St.ev ⟨st.σ, ver', h'⟩ x = st.ev x := fun x => by cases x <;> rfl
  have hevf : St.ev ⟨st.σ, ver', h'⟩ = st.ev := funext hev
  have hparts : ∀ ps, evParts ⟨st.σ, ver', h'⟩ ps = evParts st ps := fun ps => by unfold evParts; simp only [hev]
  unfold CalmStep at hc ⊢
  unfold lateB at hl
  cases ho : o.op with
  | box t x =>
    simp only [ho] at hc hl ⊢
    rw [hev, okCells_late ha _ hl]; exact hc
  | build t parts =>
    simp only [ho] at hc hl ⊢
    unfold buildAV at hc ⊢
    have := parts_late ha parts hl (fun _ => true)
    simp only [Bool.and_true] at this
    rw [hparts, this]; exact hc
  | buildSlice t len parts =>
    simp only [ho] at hc hl ⊢
    obtain ⟨h1, e, sz, xs, h2, h3⟩ := hc
    refine ⟨h1, e, sz, xs, ?_, h3⟩
    unfold litAV at h2 ⊢
    have := fun sz => parts_late ha parts hl (fun x => x.cells.length == sz)
    simp only [hparts, this]; exact h2
  | call c =>
    simp only [ho] at hc hl ⊢
    cases hcal : c.callee with
    | builtin b =>
      simp only [hcal] at hc hl ⊢
      cases b <;> first | (exact hc.elim) | skip
      unfold evalV at hc ⊢
      simp only [hcal] at hc ⊢
      split at hc
      · rename_i x t hargs htypes
        have hx : x ∈ c.args.toList := by rw [hargs]; simp
        have hd := List.all_eq_true.1 hl x hx
        rw [hev]
        have : lenAV G.P ⟨st.σ, ver', h'⟩ t (st.ev x) = lenAV G.P st t (st.ev x) := by
          generalize st.ev x = p at hd
          unfold lenAV
          cases p with
          | ref i k =>
            obtain ⟨h1, h2, _⟩ := ha i (dj_not hd)
            simp only at h1 h2
            simp only [h1]
            cases hh : st.h i with
            | arr e sz xs => rw [hh] at h2; obtain ⟨ys, h3, h4⟩ := h2; rw [h3]; simp only [h4]
            | box cs => rw [hh] at h2; obtain ⟨ys, h3⟩ := h2; rw [h3]
            | none => rw [hh] at h2; rw [show h' i = _ from h2]
            | map _ _ => rw [hh] at h2; rw [show h' i = _ from h2]
            | obj _ => rw [hh] at h2; rw [show h' i = _ from h2]
            | iter _ _ _ => rw [hh] at h2; rw [show h' i = _ from h2]
          | osl i k lo hi f =>
            obtain ⟨h1, h2, _⟩ := ha i (dj_not hd)
            simp only at h1 h2
            simp only [h1]
            cases hh : st.h i with
            | arr e sz xs => rw [hh] at h2; obtain ⟨ys, h3, h4⟩ := h2; rw [h3]; simp only [h4]
            | box cs => rw [hh] at h2; obtain ⟨ys, h3⟩ := h2; rw [h3]
            | none => rw [hh] at h2; rw [show h' i = _ from h2]
            | map _ _ => rw [hh] at h2; rw [show h' i = _ from h2]
            | obj _ => rw [hh] at h2; rw [show h' i = _ from h2]
            | iter _ _ _ => rw [hh] at h2; rw [show h' i = _ from h2]
          | v y => cases y <;> rfl
          | _ => rfl
        rw [this]; exact hc
      · cases hc
    | invoke _ _ => simp only [hcal] at hc
    | value f =>
      simp only [hcal] at hc hl ⊢
      rw [hevf]
      rw [Bool.and_eq_true] at hl
      obtain ⟨hl1, hl2⟩ := hl
      split at hc
      · rename_i g first captured hf
        rw [hf] at hl1
        simp only [Bool.and_eq_true] at hl1
        unfold CalmCall at hc ⊢
        have : (first ++ (c.args.toList.map st.ev ++ captured)).map (borrow ⟨st.σ, ver', h'⟩) = (first ++ (c.args.toList.map st.ev ++ captured)).map (borrow st) := by
          refine List.map_congr_left fun p hp => borrow_plain _ _ p ?_
          rcases List.mem_append.1 hp with hp | hp
          · exact List.all_eq_true.1 hl1.1 p hp
          · rcases List.mem_append.1 hp with hp | hp
            · obtain ⟨x, hx, rfl⟩ := List.mem_map.1 hp
              exact List.all_eq_true.1 hl2 x hx
            · exact List.all_eq_true.1 hl1.2 p hp
        rw [this]; exact hc
      · exact hc.elim
  | alloc _ => simp only [ho] at hc
  | store _ _ _ => simp only [ho] at hc
  | select _ _ => simp only [ho] at hc
  | fieldAddr t x f =>
    simp only [ho, evalV] at hc hl ⊢
    rw [hev]
    have : fieldAddrAV G.P ⟨st.σ, ver', h'⟩ t f (st.ev x) = fieldAddrAV G.P st t f (st.ev x) := by
      generalize st.ev x = p at hl
      cases p with
      | rptr i k n j =>
        obtain ⟨h1, _, _⟩ := ha i (dj_not hl)
        simp only at h1
        simp only [fieldAddrAV, h1]
      | _ => rfl
    rw [this]; exact hc
  | indexAddr t x i =>
    simp only [ho, evalV] at hc hl ⊢
    rw [hev, hev]
    have : indexAddrAV G.P ⟨st.σ, ver', h'⟩ t (st.ev x) (st.ev i) = indexAddrAV G.P st t (st.ev x) (st.ev i) := by
      generalize st.ev x = p at hl
      generalize st.ev i = q
      cases p with
      | ref i k =>
        obtain ⟨h1, h2, _⟩ := ha i (dj_not hl)
        simp only at h1 h2
        unfold indexAddrAV
        cases q with
        | v y =>
          cases y <;> first | rfl | skip
          simp only [h1]
          cases hh : st.h i with
          | arr e sz xs => rw [hh] at h2; obtain ⟨ys, h3, h4⟩ := h2; rw [h3]; simp only [h4]
          | box cs => rw [hh] at h2; obtain ⟨ys, h3⟩ := h2; rw [h3]
          | none => rw [hh] at h2; rw [show h' i = _ from h2]
          | map _ _ => rw [hh] at h2; rw [show h' i = _ from h2]
          | obj _ => rw [hh] at h2; rw [show h' i = _ from h2]
          | iter _ _ _ => rw [hh] at h2; rw [show h' i = _ from h2]
        | _ => rfl
      | osl i k lo hi f =>
        obtain ⟨h1, h2, _⟩ := ha i (dj_not hl)
        simp only at h1 h2
        unfold indexAddrAV
        cases q with
        | v y =>
          cases y <;> first | rfl | skip
          simp only [h1]
          cases hh : st.h i with
          | arr e sz xs => rw [hh] at h2; obtain ⟨ys, h3, h4⟩ := h2; rw [h3]; simp only [h4]
          | box cs => rw [hh] at h2; obtain ⟨ys, h3⟩ := h2; rw [h3]
          | none => rw [hh] at h2; rw [show h' i = _ from h2]
          | map _ _ => rw [hh] at h2; rw [show h' i = _ from h2]
          | obj _ => rw [hh] at h2; rw [show h' i = _ from h2]
          | iter _ _ _ => rw [hh] at h2; rw [show h' i = _ from h2]
        | _ => rfl
      | rptr i k n j =>
        obtain ⟨h1, _, _⟩ := ha i (dj_not hl)
        simp only at h1
        unfold indexAddrAV
        cases q with
        | v y => cases y <;> first | rfl | simp only [h1]
        | _ => rfl
      | _ =>
        unfold indexAddrAV
        cases q with
        | v y => cases y <;> rfl
        | _ => rfl
    rw [this]; exact hc
  | slice t x lo hi mx =>
    simp only [ho, evalV] at hc hl ⊢
    rw [hev]
    have hbd : ∀ d b, boundAV ⟨st.σ, ver', h'⟩ d b = boundAV st d b := fun d b => by cases b <;> simp only [boundAV, hev]
    have : sliceAV G.P ⟨st.σ, ver', h'⟩ t lo hi mx (st.ev x) = sliceAV G.P st t lo hi mx (st.ev x) := by
      generalize st.ev x = p at hl
      unfold sliceAV
      simp only [hbd]
      cases p with
      | v y => cases y <;> rfl
      | _ => first | rfl | cases hl
    rw [this]; exact hc
  | load t x =>
    simp only [ho, evalV] at hc hl ⊢
    rw [hev]
    have : ∀ m, ldCells ⟨st.σ, ver', h'⟩ m (st.ev x) = ldCells st m (st.ev x) := by
      intro m
      generalize st.ev x = p at hl
      cases p with
      | rptr i k n j =>
        have hn := dj_not hl
        rw [List.mem_append, not_or] at hn
        obtain ⟨h1, _, h3⟩ := ha i hn.1
        have h3 := h3 hn.2
        simp only at h1 h3
        simp only [ldCells, h1, h3]
      | _ => rfl
    have h2 : ldAV G.P ⟨st.σ, ver', h'⟩ t (st.ev x) = ldAV G.P st t (st.ev x) := by simp only [ldAV, this]
    rw [h2]; exact hc
  | move x => simp only [ho, evalV] at hc ⊢; rw [hev]; exact hc
  | assign x => simp only [ho, evalV] at hc ⊢; rw [hev]; exact hc
  | pick c x y => simp only [ho, evalV] at hc ⊢; rw [hev, hev, hev]; exact hc
  | binOp op t x y yt => simp only [ho, evalV] at hc ⊢; rw [hev, hev]; exact hc
  | unOp op t x => simp only [ho, evalV] at hc ⊢; rw [hev]; exact hc
  | convert s d x => simp only [ho, evalV] at hc ⊢; rw [hev]; exact hc
  | field t x f => simp only [ho, evalV] at hc ⊢; rw [hev]; exact hc
  | index t x i => simp only [ho, evalV] at hc ⊢; rw [hev, hev]; exact hc
  | extract x i => simp only [ho, evalV] at hc ⊢; rw [hev]; exact hc
  | makeFunc f first captured =>
    simp only [ho] at hc ⊢
    unfold evalV at hc ⊢
    rw [hevf]
    exact hc
  | _ => simp only [ho] at hl; cases hl
end

/-! ### The orders -/

/-- 0: calm; 1: a new box of the walk's own; 2: another write to own memory. -/
def kindO (own : List Nat) (o : Oper) : Nat :=
  match o.op with
  | .alloc _ => 1
  | .store .. => 2
  | .buildSlice .. => match o.dst with
    | some d => if own.contains d then 2 else 0
    | none => 0
  | .call c => match c.callee with
    | .builtin .append => 2
    | .value _ => match o.dst with
      | some d => if own.contains d then 2 else 0
      | none => 0
    | _ => 0
  | _ => 0

/-- The operation turns the memory into this one, whatever stands in the slots that it does not look at. -/
def OwnTo (G : Ctx) (own : List Nat) (o : Oper) (st : St) (ver' : Nat → Nat) (h' : Nat → Blk) (u : AV) : Prop :=
  ∀ σ', (∀ x ∈ o.op.operands, St.ev ⟨σ', st.ver, st.h⟩ x = st.ev x) → ∀ K : St → Prop, K (St.put ⟨σ', ver', h'⟩ o.dst u) → vcOp G own K o ⟨σ', st.ver, st.h⟩

def zeroOK : AV → Bool
  | .v x => x.oneCell'
  | _ => false
def allocSt (G : Ctx) (d : Nat) (z : Value) (st : St) : St := (st.setBox (G.ids d) (valCells z)).put (some d) (.rptr (G.ids d) (st.ver (G.ids d) + 1) 0 0)
theorem zeroOK_ok {st : St} {l : List AV} (h : l.all zeroOK = true) : l.all (okCell st) = true := by
  rw [List.all_eq_true] at *
  intro c hc
  have := h c hc
  cases c with
  | v x => exact this
  | _ => cases this

def Node (G : Ctx) (own X Y : List Nat) (ops : Array Oper) (o : Oper) (K : St → Prop) (st : St) : Prop :=
  (kindO own o = 0 ∧ ∃ r, AYields G ops st o r ∧ lateB X [] st o = true ∧ K (st.put o.dst r)) ∨
  (kindO own o = 1 ∧ o.guard = none ∧ ∃ t d z, o.op = .alloc t ∧ o.dst = some d ∧ G.ids d ∈ X ∧ tZero G.P t = some z ∧ (valCells z).all zeroOK = true ∧ K (allocSt G d z st)) ∨
  (kindO own o = 2 ∧ o.guard = none ∧ ∃ ver' h' u, OwnTo G own o st ver' h' u ∧ Agree X Y st ⟨st.σ, ver', h'⟩ ∧ K (St.put ⟨st.σ, ver', h'⟩ o.dst u))

def anyG (G : Ctx) (own X Y : List Nat) (md : Region.Mode) (ops : Array Oper) (L : Array Bool → St → Prop) : Nat → Array Bool → St → Prop
  | 0, listed, st => L listed st
  | f + 1, listed, st => Region.ready md ops listed ≠ [] ∧ ∀ i ∈ Region.ready md ops listed, ∃ o, ops[i]? = some o ∧ dstOK G.n o.dst ∧ Node G own X Y ops o (anyG G own X Y md ops L f (listed.setIfInBounds i true)) st

section
variable {G : Ctx} {ops : Array Oper} {md : Region.Mode} {own X Y early : List Nat}

theorem lateB_same {st st' : St} {o : Oper} (h : ∀ x ∈ o.op.operands, st'.ev x = st.ev x) : lateB X Y st' o = lateB X Y st o := by
  unfold lateB
  cases ho : o.op with
  | fieldAddr t x f => rw [ho] at h; simp only; rw [h x (by simp [Op.operands])]
  | indexAddr t x i => rw [ho] at h; simp only; rw [h x (by simp [Op.operands])]
  | load t x => rw [ho] at h; simp only; rw [h x (by simp [Op.operands])]
  | slice t x lo hi mx => rw [ho] at h; simp only; rw [h x (by simp [Op.operands])]
  | box t x => rw [ho] at h; simp only; rw [h x (by simp [Op.operands])]
  | build t parts =>
    rw [ho] at h; simp only
    rw [Bool.eq_iff_iff, List.all_eq_true, List.all_eq_true]
    have e : ∀ p ∈ parts.toList, st'.ev p.2 = st.ev p.2 := fun p hp => h p.2 (by simpa [Op.operands] using ⟨p.1, by simpa using hp⟩)
    exact ⟨fun g p hp => by rw [← e p hp]; exact g p hp, fun g p hp => by rw [e p hp]; exact g p hp⟩
  | buildSlice t n parts =>
    rw [ho] at h; simp only
    rw [Bool.eq_iff_iff, List.all_eq_true, List.all_eq_true]
    have e : ∀ p ∈ parts.toList, st'.ev p.2 = st.ev p.2 := fun p hp => h p.2 (by simpa [Op.operands] using ⟨p.1, by simpa using hp⟩)
    exact ⟨fun g p hp => by rw [← e p hp]; exact g p hp, fun g p hp => by rw [e p hp]; exact g p hp⟩
  | call c =>
    rw [ho] at h; simp only
    have e : ∀ x ∈ c.args.toList, st'.ev x = st.ev x := fun x hx => h x (by simp [Op.operands, Call.operands, Array.mem_toList_iff.1 hx])
    cases hc : c.callee with
    | builtin b =>
      cases b <;> first | rfl | skip
      simp only
      rw [Bool.eq_iff_iff, List.all_eq_true, List.all_eq_true]
      exact ⟨fun g p hp => by rw [← e p hp]; exact g p hp, fun g p hp => by rw [e p hp]; exact g p hp⟩
    | invoke _ _ => rfl
    | value f =>
      simp only
      rw [h f (by simp [Op.operands, Call.operands, hc])]
      congr 1
      rw [Bool.eq_iff_iff, List.all_eq_true, List.all_eq_true]
      exact ⟨fun g p hp => by rw [← e p hp]; exact g p hp, fun g p hp => by rw [e p hp]; exact g p hp⟩
  | _ => rfl

theorem ev_put_not {st : St} {o : Oper} {d : Option Tmp} {u : AV} (h : ∀ x, d = some x → x ∉ o.looksAt ops) : ∀ x ∈ o.op.operands, St.ev (st.put d u) x = st.ev x := by
  intro x hx
  cases d with
  | none => rfl
  | some e =>
    cases x with
    | tmp t =>
      have hne : t ≠ e := fun he => h e rfl (by subst he; exact List.mem_append_left _ (List.mem_filterMap.2 ⟨.tmp t, by simpa using hx, rfl⟩))
      simp [St.ev, St.put, upd, hne]
    | _ => rfl

theorem AYields.late {st : St} {o : Oper} {r : AV} {ver' : Nat → Nat} {h' : Nat → Blk} (ha : Agree X Y st ⟨st.σ, ver', h'⟩) (hl : lateB X Y st o = true) (hy : AYields G ops st o r) : AYields G ops ⟨st.σ, ver', h'⟩ o r := by
  refine ⟨hy.1, ?_⟩
  have hy2 := hy.2
  cases hg : o.guard with
  | none => simp only [hg] at hy2 ⊢; exact hy2.late ha hl
  | some jw =>
    obtain ⟨j, want⟩ := jw
    simp only [hg] at hy2 ⊢
    obtain ⟨t, b, h1, h2, h3⟩ := hy2
    refine ⟨t, b, h1, h2, ?_⟩
    split
    · rename_i hb; rw [if_pos hb] at h3; exact h3.late ha hl
    · rename_i hb; rw [if_neg hb] at h3; exact h3

theorem agree_box (st : St) {id : Nat} (hid : id ∈ X) (cs : List AV) : Agree X Y st (st.setBox id cs) := fun k hk => by
  have hne : k ≠ id := fun he => hk (he ▸ hid)
  simp only [St.setBox, upd, hne, if_false]
  exact ⟨trivial, Shape.refl _, fun _ => trivial⟩

theorem anyG_calm (E : Bool) {L : Array Bool → St → Prop} {i : Nat} {oi : Oper} {v : AV} (hi : ops[i]? = some oi) (hd : dstOK G.n oi.dst) (hk : kindO own oi = 0) (hdone : ∀ listed st, L listed st → Region.ready md ops listed = []) :
    ∀ (f : Nat) (listed : Array Bool) (st : St),
      (∀ j oj, ops[j]? = some oj → j ≠ i → listed.getD j true = false → (∀ e ∈ oj.after, Region.binds md e = true → e.on ≠ i) → oi.apart ops oj = true ∧ (E = true → kindO own oj ≠ 2)) →
      i ∈ Region.ready md ops listed → AYields G ops st oi v → lateB X [] st oi = true → (E = false → lateB X Y st oi = true) → anyG G own X Y md ops L f (listed.setIfInBounds i true) (st.put oi.dst v) → anyG G own X Y md ops L (f + 1) listed st := by
  intro f
  induction f with
  | zero =>
    intro listed st _ hr hy hl hlE H
    refine ⟨fun h => (by rw [h] at hr; cases hr), fun j hj => ?_⟩
    by_cases hji : j = i
    · subst hji; exact ⟨oi, hi, hd, .inl ⟨hk, v, hy, hl, H⟩⟩
    · have := ready_mono hj hji
      rw [hdone _ _ H] at this
      cases this
  | succ f ih =>
    intro listed st hfree hr hy hl hlE H
    refine ⟨fun h => (by rw [h] at hr; cases hr), fun j hj => ?_⟩
    by_cases hji : j = i
    · subst hji; exact ⟨oi, hi, hd, .inl ⟨hk, v, hy, hl, H⟩⟩
    · obtain ⟨oj, hoj, hdj, hnode⟩ := H.2 j (ready_mono hj hji)
      obtain ⟨hjun, oj', hoj', hall⟩ := mem_ready.1 hj
      have : oj' = oj := Option.some.inj (hoj'.symm.trans hoj)
      subst this
      have hun := (mem_ready.1 hr).1
      have hnot : ∀ e ∈ oj'.after, Region.binds md e = true → e.on ≠ i := fun e he hb heq => by
        have h1 := hall e he hb
        rw [heq, getD_both hun] at h1
        cases h1
      obtain ⟨hap, hkE⟩ := hfree j oj' hoj hji hjun hnot
      obtain ⟨a1, a2, a3⟩ := Oper.apart_spec hap
      have hfree' : ∀ k ok, ops[k]? = some ok → k ≠ i → (listed.setIfInBounds j true).getD k true = false →
          (∀ e ∈ ok.after, Region.binds md e = true → e.on ≠ i) → oi.apart ops ok = true ∧ (E = true → kindO own ok ≠ 2) := fun k ok hk hki hun' hno => by
        refine hfree k ok hk hki ?_ hno
        by_cases hjk : j = k
        · subst hjk; exact hjun
        · rw [getD_set_ne true hjk] at hun'; exact hun'
      have hput : ∀ x, oi.dst = some x → x ∉ oj'.looksAt ops := a1
      have hevj : ∀ x ∈ oj'.op.operands, St.ev (st.put oi.dst v) x = st.ev x := ev_put_not hput
      refine ⟨oj', hoj, hdj, ?_⟩
      rcases hnode with ⟨hkj, rj, hyj, hlj, H1⟩ | ⟨hkj, hgj, t, d, z, hop, hdd, hid, hz, hzo, H1⟩ | ⟨hkj, hgj, ver', h', u, hto, hag, H1⟩
      · have hyj' : AYields G ops st oj' rj := by
          have h2 := AYields.of_put (u := match oi.dst with | some d => st.σ d | none => .junk) hput hyj
          have hback : (st.put oi.dst v).put oi.dst (match oi.dst with | some d => st.σ d | none => .junk) = st := by
            cases oi.dst with
            | none => rfl
            | some d =>
              simp only [St.put]
              have : upd (upd st.σ d v) d (st.σ d) = st.σ := by funext k; by_cases hk : k = d <;> simp [upd, hk]
              rw [this]
          rw [hback] at h2; exact h2
        refine .inl ⟨hkj, rj, hyj', by rw [← lateB_same hevj]; exact hlj, ?_⟩
        refine ih (listed.setIfInBounds j true) _ hfree' (ready_mono hr (Ne.symm hji)) (hy.of_put a3) (by rw [lateB_same (ev_put_not a3)]; exact hl) (fun hE => by rw [lateB_same (ev_put_not a3)]; exact hlE hE) ?_
        rw [Array.setIfInBounds_comm _ _ hji, ← St.put_comm st v rj a2]
        exact H1
      · refine .inr (.inl ⟨hkj, hgj, t, d, z, hop, hdd, hid, hz, hzo, ?_⟩)
        have hag : Agree X [] st (st.setBox (G.ids d) (valCells z)) := agree_box st hid _
        have hy2 : AYields G ops (st.setBox (G.ids d) (valCells z)) oi v := hy.late hag hl
        have hl2 : lateB X [] (st.setBox (G.ids d) (valCells z)) oi = true := by rw [lateB_same (st := st) (fun x _ => by cases x <;> rfl)]; exact hl
        have hl3 : E = false → lateB X Y (st.setBox (G.ids d) (valCells z)) oi = true := fun hE => by rw [lateB_same (st := st) (fun x _ => by cases x <;> rfl)]; exact hlE hE
        have a3' : ∀ x, some d = some x → x ∉ oi.looksAt ops := fun x hx => a3 x (by rw [hdd, hx])
        refine ih (listed.setIfInBounds j true) _ hfree' (ready_mono hr (Ne.symm hji)) (hy2.of_put a3') (by unfold allocSt; rw [lateB_same (ev_put_not a3')]; exact hl2) (fun hE => by unfold allocSt; rw [lateB_same (ev_put_not a3')]; exact hl3 hE) ?_
        rw [Array.setIfInBounds_comm _ _ hji]
        have : (allocSt G d z st).put oi.dst v = allocSt G d z (st.put oi.dst v) := by
          unfold allocSt
          rw [St.put_comm (st.setBox (G.ids d) (valCells z)) (.rptr (G.ids d) (st.ver (G.ids d) + 1) 0 0) v (x := some d) (y := oi.dst) (fun d' hd' he => a2 d' he (by rw [hdd]; exact hd'))]
          cases oi.dst <;> rfl
        rw [this]; exact H1
      · have hEf : E = false := by cases E with | false => rfl | true => exact absurd hkj (hkE rfl)
        have hto' : OwnTo G own oj' st ver' h' u := fun σ' hσ K hK => by
          have e : ∀ (dd : Option Tmp) (vv : AV), (st.put dd vv).ver = st.ver ∧ (st.put dd vv).h = st.h := fun dd vv => by cases dd <;> exact ⟨rfl, rfl⟩
          have := hto σ' (fun x hx => by
            rw [(e oi.dst v).1, (e oi.dst v).2]
            exact (hσ x hx).trans (hevj x hx).symm) K hK
          rw [(e oi.dst v).1, (e oi.dst v).2] at this
          exact this
        have hag' : Agree X Y st ⟨st.σ, ver', h'⟩ := by
          have e : ∀ (dd : Option Tmp) (vv : AV), (st.put dd vv).ver = st.ver ∧ (st.put dd vv).h = st.h := fun dd vv => by cases dd <;> exact ⟨rfl, rfl⟩
          intro id hid
          have := hag id hid
          rw [(e oi.dst v).1, (e oi.dst v).2] at this
          exact this
        refine .inr (.inr ⟨hkj, hgj, ver', h', u, hto', hag', ?_⟩)
        have hy2 : AYields G ops ⟨st.σ, ver', h'⟩ oi v := hy.late hag' (hlE hEf)
        have hl2 : lateB X [] ⟨st.σ, ver', h'⟩ oi = true := by rw [lateB_same (st := st) (fun x _ => by cases x <;> rfl)]; exact hl
        have hl3 : E = false → lateB X Y ⟨st.σ, ver', h'⟩ oi = true := fun hE => by rw [lateB_same (st := st) (fun x _ => by cases x <;> rfl)]; exact hlE hE
        refine ih (listed.setIfInBounds j true) _ hfree' (ready_mono hr (Ne.symm hji)) (hy2.of_put a3) (by rw [lateB_same (ev_put_not a3)]; exact hl2) (fun hE => by rw [lateB_same (ev_put_not a3)]; exact hl3 hE) ?_
        rw [Array.setIfInBounds_comm _ _ hji, ← St.put_comm ⟨st.σ, ver', h'⟩ v u a2]
        have : St.put ⟨st.σ, ver', h'⟩ oi.dst v = ⟨(st.put oi.dst v).σ, ver', h'⟩ := by cases oi.dst <;> rfl
        rw [this]; exact H1

theorem allocSt_comm {st : St} {d d' : Nat} {z z' : Value} (hne : d' ≠ d) (hid : G.ids d' ≠ G.ids d) : allocSt G d' z' (allocSt G d z st) = allocSt G d z (allocSt G d' z' st) := by
  unfold allocSt St.setBox St.put
  simp only [St.mk.injEq]
  refine ⟨?_, ?_, ?_⟩
  · funext k
    simp only [upd]
    by_cases h1 : k = d
    · subst h1
      simp [hne.symm, hid.symm]
    · by_cases h2 : k = d'
      · subst h2; simp [h1, hid]
      · simp [h1, h2]
  · funext k
    simp only [upd]
    by_cases h1 : k = G.ids d
    · subst h1; simp [hid.symm]
    · by_cases h2 : k = G.ids d'
      · subst h2; simp [h1, hid]
      · simp [h1, h2]
  · funext k
    simp only [upd]
    by_cases h1 : k = G.ids d
    · subst h1; simp [hid.symm]
    · by_cases h2 : k = G.ids d'
      · subst h2; simp [h1]
      · simp [h1, h2]

theorem anyG_alloc {L : Array Bool → St → Prop} {i : Nat} {oi : Oper} {t : TypeId} {d : Nat} {z : Value} (hinj : ∀ d d', d ≠ d' → G.ids d ≠ G.ids d') (hi : ops[i]? = some oi) (hdo : dstOK G.n oi.dst) (hk : kindO own oi = 1) (hg : oi.guard = none) (hop : oi.op = .alloc t) (hd : oi.dst = some d) (hid : G.ids d ∈ X) (hz : tZero G.P t = some z) (hzo : (valCells z).all zeroOK = true) (hdone : ∀ listed st, L listed st → Region.ready md ops listed = []) :
    ∀ (f : Nat) (listed : Array Bool) (st : St),
      (∀ j oj, ops[j]? = some oj → j ≠ i → listed.getD j true = false → (∀ e ∈ oj.after, Region.binds md e = true → e.on ≠ i) → oi.apart ops oj = true ∧ kindO own oj ≠ 2) →
      i ∈ Region.ready md ops listed → anyG G own X Y md ops L f (listed.setIfInBounds i true) (allocSt G d z st) → anyG G own X Y md ops L (f + 1) listed st := by
  intro f
  induction f with
  | zero =>
    intro listed st _ hr H
    refine ⟨fun h => (by rw [h] at hr; cases hr), fun j hj => ?_⟩
    by_cases hji : j = i
    · subst hji; exact ⟨oi, hi, hdo, .inr (.inl ⟨hk, hg, t, d, z, hop, hd, hid, hz, hzo, H⟩)⟩
    · have := ready_mono hj hji
      rw [hdone _ _ H] at this
      cases this
  | succ f ih =>
    intro listed st hfree hr H
    refine ⟨fun h => (by rw [h] at hr; cases hr), fun j hj => ?_⟩
    by_cases hji : j = i
    · subst hji; exact ⟨oi, hi, hdo, .inr (.inl ⟨hk, hg, t, d, z, hop, hd, hid, hz, hzo, H⟩)⟩
    · obtain ⟨oj, hoj, hdj, hnode⟩ := H.2 j (ready_mono hj hji)
      obtain ⟨hjun, oj', hoj', hall⟩ := mem_ready.1 hj
      have : oj' = oj := Option.some.inj (hoj'.symm.trans hoj)
      subst this
      have hun := (mem_ready.1 hr).1
      have hnot : ∀ e ∈ oj'.after, Region.binds md e = true → e.on ≠ i := fun e he hb heq => by
        have h1 := hall e he hb
        rw [heq, getD_both hun] at h1
        cases h1
      obtain ⟨hap, hk2⟩ := hfree j oj' hoj hji hjun hnot
      obtain ⟨a1, a2, a3⟩ := Oper.apart_spec hap
      have hfree' : ∀ k ok, ops[k]? = some ok → k ≠ i → (listed.setIfInBounds j true).getD k true = false →
          (∀ e ∈ ok.after, Region.binds md e = true → e.on ≠ i) → oi.apart ops ok = true ∧ kindO own ok ≠ 2 := fun k ok hk hki hun' hno => by
        refine hfree k ok hk hki ?_ hno
        by_cases hjk : j = k
        · subst hjk; exact hjun
        · rw [getD_set_ne true hjk] at hun'; exact hun'
      have hput : ∀ x, some d = some x → x ∉ oj'.looksAt ops := fun x hx => a1 x (by rw [hd, hx])
      refine ⟨oj', hoj, hdj, ?_⟩
      rcases hnode with ⟨hkj, rj, hyj, hlj, H1⟩ | ⟨hkj, hgj, t', d', z', hop', hdd, hid', hz', hzo', H1⟩ | ⟨hkj, _⟩
      · have hlj0 : lateB X [] (st.setBox (G.ids d) (valCells z)) oj' = true := by
          unfold allocSt at hlj
          rw [lateB_same (ev_put_not hput)] at hlj; exact hlj
        have hlj1 : lateB X [] st oj' = true := by rw [← lateB_same (st := st) (st' := st.setBox (G.ids d) (valCells z)) (fun x _ => by cases x <;> rfl)]; exact hlj0
        have hag : Agree X [] (allocSt G d z st) ⟨(allocSt G d z st).σ, st.ver, st.h⟩ := by
          have := (agree_box (X := X) (Y := []) st hid (valCells z)).symm
          exact this
        have hyj1 := hyj.late hag hlj
        have hyj' : AYields G ops st oj' rj := by
          have h2 := AYields.of_put (u := st.σ d) hput hyj1
          have hback : (St.put ⟨(allocSt G d z st).σ, st.ver, st.h⟩ (some d) (st.σ d)) = st := by
            unfold allocSt St.put St.setBox
            have : upd (upd st.σ d (AV.rptr (G.ids d) (st.ver (G.ids d) + 1) 0 0)) d (st.σ d) = st.σ := by funext k; by_cases hk : k = d <;> simp [upd, hk]
            simp only [this]
          rw [hback] at h2; exact h2
        refine .inl ⟨hkj, rj, hyj', hlj1, ?_⟩
        refine ih (listed.setIfInBounds j true) _ hfree' (ready_mono hr (Ne.symm hji)) ?_
        rw [Array.setIfInBounds_comm _ _ hji]
        have : (allocSt G d z st).put oj'.dst rj = allocSt G d z (st.put oj'.dst rj) := by
          unfold allocSt
          rw [St.put_comm (st.setBox (G.ids d) (valCells z)) (.rptr (G.ids d) (st.ver (G.ids d) + 1) 0 0) rj (x := some d) (y := oj'.dst) (fun d' hd' he => a2 d' (by rw [hd]; exact hd') he)]
          cases oj'.dst <;> rfl
        rw [← this]; exact H1
      · have hne : d' ≠ d := fun he => a2 d hd (by rw [hdd, he])
        refine .inr (.inl ⟨hkj, hgj, t', d', z', hop', hdd, hid', hz', hzo', ?_⟩)
        refine ih (listed.setIfInBounds j true) _ hfree' (ready_mono hr (Ne.symm hji)) ?_
        rw [Array.setIfInBounds_comm _ _ hji, ← allocSt_comm hne (hinj _ _ hne)]
        exact H1
      · exact absurd hkj hk2

/-! ### The walk in one order -/

def inY (X Y : List Nat) : AV → Bool
  | .rptr i _ _ _ => Y.contains i || X.contains i
  | _ => false
/-- A call that hands back a new array. -/
def OwnCall (G : Ctx) (X : List Nat) (g : FuncId) (args : List AV) (d : Nat) (K : St → Prop) (st : St) : Prop :=
  ∃ e sz xs, AC G.P g args (.fresh e sz xs) ∧ G.ids d ∈ X ∧ K ((st.setArr (G.ids d) e sz xs).put (some d) (.ref (G.ids d) (st.ver (G.ids d) + 1)))
@[congr] theorem OwnCall_congr {G : Ctx} {X : List Nat} {g : FuncId} {args args' : List AV} {d : Nat} {K : St → Prop} {st st' : St} (ha : args = args') (h : st = st') : OwnCall G X g args d K st = OwnCall G X g args' d K st' := by rw [ha, h]
theorem OwnCall.fresh {G : Ctx} {X : List Nat} {g : FuncId} {args : List AV} {d e sz : Nat} {xs : List AV} {K : St → Prop} {st : St} (h : AC G.P g args (.fresh e sz xs)) (hd : G.ids d ∈ X)
    (hk : K ((st.setArr (G.ids d) e sz xs).put (some d) (.ref (G.ids d) (st.ver (G.ids d) + 1)))) : OwnCall G X g args d K st := ⟨e, sz, xs, h, hd, hk⟩
def ownAppend (G : Ctx) (X : List Nat) (t : TypeId) (p q : AV) (d : Nat) (K : St → Prop) (st : St) : Prop :=
  bindP (tElem G.P t) fun e => bindP (tSize G.P e) fun sz => bindP (tBytes G.P e) fun bytes => ((tZero G.P e).map (·.cells.size) = some sz ∧ 0 < sz) ∧
    onFull (fullOf p) (fun sz' xs => sz' = sz ∧ bindP (srcAV st sz q) fun ys => ((∀ c ∈ ys, okCells st c = true) ∧ (xs.length + ys.length) * bytes ≤ 140737488355328 ∧ xs.length + ys.length ≤ 140737488355328) ∧ ys ≠ [] ∧ G.ids d ∈ X ∧
      K ((st.setArr (G.ids d) e sz (xs ++ ys)).put (some d) (.ref (G.ids d) (st.ver (G.ids d) + 1))))
    (oslOf st p = none ∧ bindP (destAV st (G.ids d) e sz p) fun dx => bindP (srcAV st sz q) fun ys => ((∀ c ∈ ys, okCells st c = true) ∧ (dx.2.length + ys.length) * bytes ≤ 140737488355328 ∧ dx.2.length + ys.length ≤ 140737488355328) ∧ dx.1 ∈ X ∧
      K ((st.setArr dx.1 e sz (dx.2 ++ ys)).put (some d) (.ref dx.1 (st.ver dx.1 + 1))))
def ownStep (G : Ctx) (own X Y : List Nat) (o : Oper) (K : St → Prop) (st : St) : Prop :=
  match o.op with
  | .store t p x => bindP (storeSt G.P st t (st.ev p) (st.ev x)) fun st' => inY X Y (st.ev p) = true ∧ K (st'.put o.dst .junk)
  | .call c => match c.callee, o.dst with
    | .value f, some d => onFn (st.ev f) fun g first captured => OwnCall G X g (first ++ (c.args.toList.map st.ev ++ captured)) d K st
    | .builtin .append, some d => match c.args.toList, c.argTypes.toList with
      | [p, q], [t, t'] => t' = t ∧ ownAppend G X t (st.ev p) (st.ev q) d K st
      | _, _ => False
    | _, _ => False
  | .buildSlice t n parts => match o.dst with
    | some d => d ∈ own ∧ bindP (litAV G.P st t n parts) fun x => G.ids d ∈ X ∧ K ((st.setArr (G.ids d) x.1 x.2.1 x.2.2).put (some d) (.ref (G.ids d) (st.ver (G.ids d) + 1)))
    | none => False
  | _ => False
theorem litAV_σ {P : Program} (st : St) (σ' : Nat → AV) (t : TypeId) (n : Nat) (parts : Array (Nat × Operand)) (h : ∀ p ∈ parts.toList, St.ev ⟨σ', st.ver, st.h⟩ p.2 = st.ev p.2) : litAV P ⟨σ', st.ver, st.h⟩ t n parts = litAV P st t n parts := by
  have he : evParts ⟨σ', st.ver, st.h⟩ parts = evParts st parts := by
    unfold evParts
    exact List.map_congr_left fun p hp => by rw [h p hp]
  have hk : ∀ x : Nat × AV, okCells ⟨σ', st.ver, st.h⟩ x.2 = okCells st x.2 := fun x => okCells_σ (st := st) (σ' := σ') x.2
  unfold litAV
  simp only [he, hk]
theorem agree_arr (st : St) {id : Nat} (hid : id ∈ X) (e sz : Nat) (xs : List AV) : Agree X Y st (st.setArr id e sz xs) := fun k hk => by
  have : k ≠ id := fun he => hk (he ▸ hid)
  simp [St.setArr, upd, this, Shape.refl]

theorem okCells_σ2 (st : St) (σ' : Nat → AV) (p : AV) : okCells ⟨σ', st.ver, st.h⟩ p = okCells st p := okCells_σ (st := st) (σ' := σ') p
theorem storeSt_σ {P : Program} (st : St) (σ' : Nat → AV) (t : TypeId) (p q : AV) : storeSt P ⟨σ', st.ver, st.h⟩ t p q = (storeSt P st t p q).map fun s => ⟨σ', s.ver, s.h⟩ := by
  unfold storeSt
  cases p with
  | rptr id k i j =>
    simp only [okCells_σ2]
    split
    · cases st.h id with
      | box cs => simp only; split <;> rfl
      | arr e sz xs =>
        simp only
        cases xs[i]? with
        | none => rfl
        | some x =>
          simp only
          split
          · rfl
          · cases x with
            | agg cs => simp only; split <;> rfl
            | _ => rfl
      | _ => rfl
    · rfl
  | _ => rfl
theorem storeSt_agree {P : Program} {st st' : St} {t : TypeId} {p q : AV} (h : storeSt P st t p q = some st') (hi : inY X Y p = true) : Agree X Y st ⟨st.σ, st'.ver, st'.h⟩ ∧ st'.σ = st.σ := by
  unfold storeSt at h
  cases p with
  | rptr id k i j =>
    simp only at h
    have hX : ∀ k, k ∉ X → k = id → id ∈ Y := fun k hk he => by
      subst he
      have := hi
      simp only [inY, Bool.or_eq_true, List.contains_iff_mem] at this
      exact this.resolve_right hk
    split at h
    case isFalse => cases h
    cases hh : st.h id with
    | box cs =>
      rw [hh] at h
      simp only at h
      split at h
      case isFalse => cases h
      cases h
      refine ⟨fun k hk => ⟨rfl, ?_, fun hy => ?_⟩, rfl⟩
      · by_cases he : k = id
        · subst he; rw [hh]; exact ⟨_, by simp [upd]; rfl⟩
        · simp only [upd, he, if_false]; exact Shape.refl _
      · by_cases he : k = id
        · exact absurd (he ▸ hX k hk he) hy
        · simp only [upd, he, if_false]
    | arr e sz xs =>
      rw [hh] at h
      simp only at h
      have key : ∀ x, some (({ st with h := upd st.h id (.arr e sz (xs.set i x)) } : St)) = some st' → Agree X Y st ⟨st.σ, st'.ver, st'.h⟩ ∧ st'.σ = st.σ := by
        intro x hx
        cases hx
        refine ⟨fun k hk => ⟨rfl, ?_, fun hy => ?_⟩, rfl⟩
        · by_cases he : k = id
          · subst he; rw [hh]; exact ⟨xs.set i x, by simp [upd], by simp⟩
          · simp only [upd, he, if_false]; exact Shape.refl _
        · by_cases he : k = id
          · exact absurd (he ▸ hX k hk he) hy
          · simp only [upd, he, if_false]
      split at h
      · split at h
        · exact key _ h
        · split at h
          · split at h
            · exact key _ h
            · cases h
          · cases h
      · cases h
    | _ => rw [hh] at h; cases h
  | _ => cases h

theorem ownStep_spec {o : Oper} {K : St → Prop} {st : St} (hd0 : dstOK G.n o.dst) (h : ownStep G own X Y o K st) : ∃ ver' h' u, OwnTo G own o st ver' h' u ∧ Agree X Y st ⟨st.σ, ver', h'⟩ ∧ K (St.put ⟨st.σ, ver', h'⟩ o.dst u) := by
  unfold ownStep at h
  split at h
  · rename_i t p x ho
    obtain ⟨st', hs, hi, hk⟩ := h
    obtain ⟨ha, hσ⟩ := storeSt_agree hs hi
    refine ⟨st'.ver, st'.h, .junk, ?_, ha, ?_⟩
    · intro σ' hev K' hK'
      unfold vcOp
      simp only [ho]
      rw [hev p (by rw [ho]; simp [Op.operands]), hev x (by rw [ho]; simp [Op.operands]), storeSt_σ, hs]
      exact ⟨_, rfl, hK'⟩
    · have : (⟨st.σ, st'.ver, st'.h⟩ : St) = st' := by rw [← hσ]
      rw [this]; exact hk
  · rename_i c ho
    have hda := hd0
    split at h
    · rename_i f d hc hdd
      obtain ⟨g, first, captured, hf, e, sz, xs, hac, hid, hk⟩ := h
      refine ⟨_, _, .ref (G.ids d) (st.ver (G.ids d) + 1), ?_, agree_arr st hid e sz xs, by rw [hdd]; exact hk⟩
      intro σ' hev K' hK'
      unfold vcOp
      have hops : ∀ x ∈ c.args.toList, St.ev ⟨σ', st.ver, st.h⟩ x = st.ev x := fun x hx => hev x (by rw [ho]; simp [Op.operands, Call.operands, Array.mem_toList_iff.1 hx])
      have hfe : St.ev ⟨σ', st.ver, st.h⟩ f = st.ev f := hev f (by rw [ho]; simp [Op.operands, Call.operands, hc])
      have hargs : c.args.toList.map (St.ev ⟨σ', st.ver, st.h⟩) = c.args.toList.map st.ev := List.map_congr_left hops
      simp only [ho, hc, hfe, hargs]
      refine .inl ⟨g, first, captured, hf, CallSem.pure hac hda ?_⟩
      rw [hdd] at hK' ⊢
      exact hK'
    · rename_i d hc hdd
      split at h
      case h_2 => cases h
      rename_i p q t t' hargs htypes
      obtain ⟨rfl, e, he, sz, hs, bytes, hb, ⟨hz, hpos⟩, h⟩ := h
      rcases h with ⟨sz', xs, hfull, rfl, ys, hsrc, ⟨hok, hn, hn'⟩, hne, hid, hk⟩ | ⟨hfull, hosl, ⟨id, xs⟩, hdest, ys, hsrc, ⟨hok, hn, hn'⟩, hid, hk⟩
      · refine ⟨_, _, .ref (G.ids d) (st.ver (G.ids d) + 1), ?_, agree_arr st hid e sz' (xs ++ ys), by rw [hdd]; exact hk⟩
        intro σ' hev K' hK'
        have hp : St.ev ⟨σ', st.ver, st.h⟩ p = st.ev p := hev p (by rw [ho]; simp [Op.operands, Call.operands]; right; rw [← Array.mem_toList_iff, hargs]; simp)
        have hq : St.ev ⟨σ', st.ver, st.h⟩ q = st.ev q := hev q (by rw [ho]; simp [Op.operands, Call.operands]; right; rw [← Array.mem_toList_iff, hargs]; simp)
        have hokc : ∀ c ∈ ys, okCells ⟨σ', st.ver, st.h⟩ c = true := fun c hc => by rw [okCells_σ2]; exact hok c hc
        have hsrc' : srcAV ⟨σ', st.ver, st.h⟩ sz' (st.ev q) = some ys := hsrc
        unfold vcOp
        simp only [ho, hc, hdd, hargs, htypes, hp, hq]
        rw [hdd] at hK'
        exact ⟨trivial, e, he, sz', hs, bytes, hb, ⟨hz, hpos⟩, .inl ⟨sz', xs, hfull, rfl, ys, hsrc', ⟨hokc, hn, hn'⟩, fun h0 => absurd h0 hne, fun _ => hK'⟩⟩
      refine ⟨_, _, .ref id (st.ver id + 1), ?_, agree_arr st hid e sz (xs ++ ys), by rw [hdd]; exact hk⟩
      intro σ' hev K' hK'
      have hp : St.ev ⟨σ', st.ver, st.h⟩ p = st.ev p := hev p (by rw [ho]; simp [Op.operands, Call.operands]; right; rw [← Array.mem_toList_iff, hargs]; simp)
      have hq : St.ev ⟨σ', st.ver, st.h⟩ q = st.ev q := hev q (by rw [ho]; simp [Op.operands, Call.operands]; right; rw [← Array.mem_toList_iff, hargs]; simp)
      have hokc : ∀ c ∈ ys, okCells ⟨σ', st.ver, st.h⟩ c = true := fun c hc => by rw [okCells_σ2]; exact hok c hc
      have hosl' : oslOf ⟨σ', st.ver, st.h⟩ (st.ev p) = none := hosl
      have hdest' : destAV ⟨σ', st.ver, st.h⟩ (G.ids d) e sz (st.ev p) = some (id, xs) := hdest
      have hsrc' : srcAV ⟨σ', st.ver, st.h⟩ sz (st.ev q) = some ys := hsrc
      unfold vcOp
      simp only [ho, hc, hdd, hargs, htypes, hp, hq]
      rw [hdd] at hK'
      exact ⟨trivial, e, he, sz, hs, bytes, hb, ⟨hz, hpos⟩, .inr ⟨hfull, .inr ⟨hosl', (id, xs), hdest', ys, hsrc', ⟨hokc, hn, hn'⟩, hK'⟩⟩⟩
    · exact h.elim
  · rename_i t n parts ho
    split at h
    case h_2 => cases h
    rename_i d hdd
    obtain ⟨hown, x, hx, hid, hk⟩ := h
    refine ⟨_, _, .ref (G.ids d) (st.ver (G.ids d) + 1), ?_, agree_arr st hid x.1 x.2.1 x.2.2, by rw [hdd]; exact hk⟩
    intro σ' hev K' hK'
    unfold vcOp
    simp only [ho, hdd]
    rw [litAV_σ st σ' t n parts fun p hp => hev p.2 (by rw [ho]; simp only [Op.operands]; exact List.mem_toArray.2 (List.mem_map.2 ⟨p, hp, rfl⟩)), hx]
    refine ⟨x, rfl, ?_⟩
    simp only [if_pos hown]
    rw [hdd] at hK'
    exact hK'
  · exact h.elim

def isEarly (early : List Nat) (o : Oper) : Bool := match o.dst with
  | some d => early.contains d
  | none => false
theorem lateB_mono {X Y : List Nat} {st : St} {o : Oper} (h : lateB X Y st o = true) : lateB X [] st o = true := by
  unfold lateB at h ⊢
  cases ho : o.op with
  | load t x =>
    simp only [ho] at h ⊢
    cases hp : st.ev x with
    | ref i k => rw [hp] at h; simp [dj] at h ⊢; exact h.1
    | rptr i k n j => rw [hp] at h; simp [dj] at h ⊢; exact h.1
    | osl i k lo hi f => rw [hp] at h; simp [dj] at h ⊢; exact h.1
    | _ => rfl
  | _ => simp only [ho] at h ⊢; first | done | exact h
def vcAny (G : Ctx) (own X Y early : List Nat) (ops : Array Oper) (Q : St → Prop) : List Oper → St → Prop
  | [], st => Q st
  | o :: rest, st => match kindO own o with
    | 0 => lateB X (if isEarly early o = true then [] else Y) st o = true ∧ vcCalm G ops (fun st' => vcAny G own X Y early ops Q rest st') [o] st
    | 1 => o.guard = none ∧ dstOK G.n o.dst ∧ match o.op, o.dst with
      | .alloc t, some d => G.ids d ∈ X ∧ bindP (tZero G.P t) fun z => (valCells z).all zeroOK = true ∧ vcAny G own X Y early ops Q rest (allocSt G d z st)
      | _, _ => False
    | _ => o.guard = none ∧ dstOK G.n o.dst ∧ ownStep G own X Y o (fun st' => vcAny G own X Y early ops Q rest st') st

def canonB (md : Region.Mode) (ops : Array Oper) (own early : List Nat) : List Nat → Array Bool → Bool
  | [], listed => (Region.ready md ops listed).isEmpty
  | i :: l, listed => (match ops[i]? with
    | none => false
    | some o => match kindO own o with
      | 0 => (Region.ready md ops listed).contains i && Region.free md ops listed i && (!isEarly early o || (List.range ops.size).all fun j => j == i || listed.getD j true || match ops[j]? with
        | some oj => oj.after.any (fun e => Region.binds md e && e.on == i) || kindO own oj != 2
        | none => true)
      | 1 => (Region.ready md ops listed).contains i && Region.free md ops listed i && (List.range ops.size).all fun j => j == i || listed.getD j true || match ops[j]? with
        | some oj => oj.after.any (fun e => Region.binds md e && e.on == i) || kindO own oj != 2
        | none => true
      | _ => Region.ready md ops listed == [i]) && canonB md ops own early l (listed.setIfInBounds i true)

theorem kind_le (own : List Nat) (o : Oper) : kindO own o = 0 ∨ kindO own o = 1 ∨ kindO own o = 2 := by
  unfold kindO
  split
  · exact .inr (.inl rfl)
  · exact .inr (.inr rfl)
  · split
    · split
      · exact .inr (.inr rfl)
      · exact .inl rfl
    · exact .inl rfl
  · split
    · exact .inr (.inr rfl)
    · split
      · split
        · exact .inr (.inr rfl)
        · exact .inl rfl
      · exact .inl rfl
    · exact .inl rfl
  · exact .inl rfl

theorem anyG_canon (hinj : ∀ d d', d ≠ d' → G.ids d ≠ G.ids d') {Q : St → Prop} : ∀ (l : List Nat) (listed : Array Bool) (st : St), canonB md ops own early l listed = true → vcAny G own X Y early ops Q (l.filterMap fun i => ops[i]?) st →
    anyG G own X Y md ops (fun listed' st' => Region.ready md ops listed' = [] ∧ Q st') l.length listed st
  | [], listed, st, hB, h => ⟨by simpa [canonB] using hB, h⟩
  | i :: l, listed, st, hB, h => by
    unfold canonB at hB
    cases hi : ops[i]? with
    | none => rw [hi] at hB; simp at hB
    | some o =>
      rw [List.filterMap_cons, hi] at h
      simp only at h
      unfold vcAny at h
      rw [hi] at hB
      simp only at hB
      have hdone : ∀ (listed' : Array Bool) (st' : St), (Region.ready md ops listed' = [] ∧ Q st') → Region.ready md ops listed' = [] := fun _ _ h => h.1
      rcases kind_le own o with hk | hk | hk
      · simp only [hk] at h hB
        simp only [Bool.and_eq_true] at hB
        obtain ⟨⟨⟨hr, hf⟩, hall⟩, hB'⟩ := hB
        obtain ⟨hl, hv⟩ := h
        obtain ⟨r, hy, hK⟩ := vcCalm_yields hv
        refine anyG_calm (isEarly early o) hi hy.1 hk hdone l.length listed st (fun j oj hj hne hun hno => ⟨Region.free_spec hi hf j oj hj hne hun hno, fun hE => ?_⟩) (by simpa using hr) hy (lateB_mono hl) (fun hE => by rw [hE] at hl; simpa using hl) (anyG_canon hinj l _ _ hB' hK)
        rw [hE] at hall
        simp only [Bool.not_true, Bool.false_or] at hall
        have h1 := List.all_eq_true.1 hall j (List.mem_range.2 (Array.getElem?_eq_some_iff.1 hj).1)
        simp only [hj, Bool.or_eq_true, beq_iff_eq, hne, false_or, hun, Bool.false_eq_true, bne_iff_ne] at h1
        rcases h1 with h1 | h1
        · obtain ⟨e, he, hb⟩ := Array.any_eq_true'.1 h1
          simp only [Bool.and_eq_true, beq_iff_eq] at hb
          exact absurd hb.2 (hno e he hb.1)
        · exact h1
      · simp only [hk] at h hB
        simp only [Bool.and_eq_true] at hB
        obtain ⟨⟨⟨hr, hf⟩, hall⟩, hB'⟩ := hB
        obtain ⟨hg, hdo, h⟩ := h
        split at h
        case h_2 => cases h
        rename_i t d hop hd
        obtain ⟨hid, z, hz, hzo, hK⟩ := h
        refine anyG_alloc hinj hi hdo hk hg hop hd hid hz hzo hdone l.length listed st (fun j oj hj hne hun hno => ⟨Region.free_spec hi hf j oj hj hne hun hno, ?_⟩) (by simpa using hr) (anyG_canon hinj l _ _ hB' hK)
        have h1 := List.all_eq_true.1 hall j (List.mem_range.2 (Array.getElem?_eq_some_iff.1 hj).1)
        simp only [hj, Bool.or_eq_true, beq_iff_eq, hne, false_or, hun, Bool.false_eq_true, bne_iff_ne] at h1
        rcases h1 with h1 | h1
        · obtain ⟨e, he, hb⟩ := Array.any_eq_true'.1 h1
          simp only [Bool.and_eq_true, beq_iff_eq] at hb
          exact absurd hb.2 (hno e he hb.1)
        · exact h1
      · simp only [hk] at h hB
        simp only [Bool.and_eq_true, beq_iff_eq] at hB
        obtain ⟨hr, hB'⟩ := hB
        obtain ⟨hg, hdo, h⟩ := h
        obtain ⟨ver', h', u, hto, hag, hK⟩ := ownStep_spec hdo h
        refine ⟨fun h0 => (by rw [hr] at h0; cases h0), fun j hj => ?_⟩
        rw [hr, List.mem_singleton] at hj
        subst hj
        exact ⟨o, hi, hdo, .inr (.inr ⟨hk, hg, ver', h', u, hto, hag, anyG_canon hinj l _ _ hB' hK⟩)⟩

theorem wpAny_of_anyG {L : Array Bool → St → Prop} {Q' : Exit → Act → World → Prop} (hL : ∀ listed st E a, Rel G st E a → L listed st → wpAnyIn G.F 0 G.P md ops Q' 0 listed a E.w) :
    ∀ (f : Nat) (listed : Array Bool) (st : St) (E : Env) (a : Act), Rel G st E a → anyG G own X Y md ops L f listed st → wpAnyIn G.F 0 G.P md ops Q' f listed a E.w
  | 0, listed, st, E, a, hr, h => hL _ _ _ _ hr h
  | f + 1, listed, st, E, a, hr, h => by
    refine ⟨fun h0 => absurd h0 h.1, fun i hi => ?_⟩
    obtain ⟨o, ho, hd, hnode⟩ := h.2 i hi
    have ih := wpAny_of_anyG hL f (listed.setIfInBounds i true)
    have go : ∀ (own' : List Nat), vcOp G own' (anyG G own X Y md ops L f (listed.setIfInBounds i true)) o st → o.wpIn G.F 0 G.P a E.w (wpAnyIn G.F 0 G.P md ops Q' f (listed.setIfInBounds i true)) Q' := fun own' hc =>
      Oper.wpIn_mono (fun a' w' ⟨st', E', hw, hrel, hk⟩ => by subst hw; exact ih st' E' a' hrel hk) (vcOp_sound own' (K := fun st' => anyG G own X Y md ops L f (listed.setIfInBounds i true) st') hd hr hc)
    unfold wpOpIn
    simp only [ho]
    unfold Region.wanted
    rcases hnode with ⟨_, r, hy, _, hrest⟩ | ⟨_, hg, t, d, z, hop, hdd, _, hz, hzo, hrest⟩ | ⟨_, hg, ver', h', u, hto, _, hrest⟩
    · obtain ⟨_, hy⟩ := hy
      cases hg : o.guard with
      | none => simp only [hg] at hy; simp only [if_true]; exact go [] (hy.vc hd hrest)
      | some jw =>
        obtain ⟨j, want⟩ := jw
        simp only [hg] at hy
        obtain ⟨t, b, ht, hb, hyy⟩ := hy
        simp only [guardV_sound hr ht hb]
        cases b with
        | true =>
          simp only [if_true] at hyy ⊢
          exact go [] (hyy.vc hd hrest)
        | false =>
          simp only [Bool.false_eq_true, if_false] at hyy ⊢
          subst hyy
          exact ⟨fun _ _ => trivial, ih _ E _ (hr.put (.v undef) (fun d he => by rw [he] at hd; exact hd)) hrest⟩
    · simp only [hg, if_true]
      refine go [] ?_
      unfold vcOp
      simp only [hop, hdd]
      exact ⟨z, hz, zeroOK_ok hzo, hrest⟩
    · simp only [hg, if_true]
      exact go own (hto st.σ (fun _ _ => rfl) _ hrest)

/-- A region that draws its order, with writes to the walk's own memory among its operations. -/
theorem AWp.drawAny {id : Nat} {l : List Oper} {Q : Exit → St → Prop} {st : St} (own X Y early : List Nat) (order : List Nat) (hm : G.P.follows .mixedOrders = true) (hB : (order.length == l.length && canonB .any l.toArray own early order (Array.replicate l.toArray.size false)) = true)
    (hinj : ∀ d d', d ≠ d' → G.ids d ≠ G.ids d') {l' : List Oper} (hl : (order.filterMap fun i => l[i]?) = l')
    (h : vcAny G own X Y early l.toArray (Q .normal) l' st) : AWp G (.region id l.toArray true) Q st := fun E a hr => by
  subst hl
  simp only [Bool.and_eq_true, beq_iff_eq] at hB
  refine wpIn_region_any hm ?_
  have H := anyG_canon hinj (Q := Q .normal) order (Array.replicate l.toArray.size false) st hB.2 (by simpa using h)
  have := wpAny_of_anyG (G := G) (Q' := fun e a' w' => ∃ st' E', E'.w = w' ∧ Rel G st' E' a' ∧ Q e st') (fun listed st' E' a' hr' hL => ⟨hL.1, st', E', rfl, hr', hL.2⟩) _ _ _ _ _ hr.drew H
  rw [hB.1] at this
  simpa using this
theorem filterMap_range {α : Type} : ∀ (l : List α), (List.range l.length).filterMap (fun i => l[i]?) = l
  | [] => rfl
  | x :: l => by
    rw [List.length_cons, List.range_succ_eq_map, List.filterMap_cons]
    simp only [List.getElem?_cons_zero, List.filterMap_map]
    have := filterMap_range l
    rw [show ((fun i => (x :: l)[i]?) ∘ Nat.succ) = (fun i => l[i]?) from by funext i; simp]
    rw [this]
/-- The same, walked in the order of the text. -/
theorem AWp.drawText {id : Nat} {l : List Oper} {Q : Exit → St → Prop} {st : St} (own X Y early : List Nat) (hm : G.P.follows .mixedOrders = true) (hB : canonB .any l.toArray own early (List.range l.length) (Array.replicate l.toArray.size false) = true)
    (hinj : ∀ d d', d ≠ d' → G.ids d ≠ G.ids d') (h : vcAny G own X Y early l.toArray (Q .normal) l st) : AWp G (.region id l.toArray true) Q st :=
  AWp.drawAny own X Y early (List.range l.length) hm (by rw [hB]; simp) hinj (filterMap_range l) h
end
@[congr] theorem vcAny_congr {G : Ctx} {own X Y early : List Nat} {ops : Array Oper} {Q : St → Prop} {l : List Oper} {st st' : St} (h : st = st') : vcAny G own X Y early ops Q l st = vcAny G own X Y early ops Q l st' := by rw [h]
end Go.Abs

-- part Fo
namespace Go.Abs
open Go Go.RowKit

/-- The slots of one walk, the memory of another. -/
def St.mem (st s : St) : St := { σ := st.σ, ver := s.ver, h := s.h }

section
variable {G : Ctx} {st : St} {E : Env} {a : Act}

/-- Another activation begins in the same memory. -/
theorem Rel.enter (hr : Rel G st E a) {n : Nat} {rnd : Option Nat} {ids : Nat → Nat} {args : List AV} {vs : Array Value} (hl : vs.size = args.length) (hn : args.length ≤ n) (hv : ∀ (i : Nat) p, args[i]? = some p → VR E p (vs.getD i undef)) :
    Rel ⟨G.P, G.w0, G.S0, n, rnd, ids, some E⟩ ⟨argAt args, st.ver, st.h⟩ E { tmps := vs ++ Array.replicate (n - vs.size) undef, defers := [] } := by
  refine ⟨by simp; omega, fun d hd => (by simp at hd), List.Pairwise.nil, fun E0 h => (by cases h; exact .refl _), hr.ver, hr.below, hr.Slt, hr.S0, hr.Snew, fun j => ?_, hr.blocks, hr.apart⟩
  simp only [argAt_eq]
  by_cases hj : j < args.length
  · have e : (vs ++ Array.replicate (n - vs.size) undef).getD j undef = vs.getD j undef := by
      have hj' : j < vs.size := by omega
      simp [Array.getD_eq_getD_getElem?, Array.getElem?_append, hj']
    rw [e]
    have := hv j args[j] (List.getElem?_eq_getElem hj)
    simpa [List.getD, hj] using this
  · have : args.getD j .junk = .junk := by simp [List.getD, List.getElem?_eq_none (Nat.le_of_not_lt hj)]
    rw [this]; exact .junk _

/-- Back in the activation that had waited. -/
theorem Rel.back (hr : Rel G st E a) {G' : Ctx} {s' : St} {E' : Env} {a' : Act} (hr' : Rel G' s' E' a') (hw : G'.w0 = G.w0) (hS : G'.S0 = G.S0) (he : G'.e0 = some E) : Rel G (st.mem s') E' a := by
  have hle : E.Le E' := hr'.le0 E he
  exact ⟨hr.size, hr.defersLe hle, hr.once, hr.le0Le hle, hr'.ver, by rw [← hw]; exact hr'.below, hr'.Slt, by rw [← hS]; exact hr'.S0, by rw [← hS, ← hw]; exact hr'.Snew, fun j => (hr.slots j).mono hle, by rw [← hw]; exact hr'.blocks, hr'.apart⟩

/-- The results of an activation, its own memory as it is. -/
def resIn (P : Program) (s : St) : List ResultVar → Option AV
  | [v] => resAV P s v
  | vs => (vs.mapM (resAV P s)).map .tup

theorem run_resIn (hr : Rel G st E a) (fn : Func) (r : AV) (h : resIn G.P st fn.results.toList = some r) : ∃ x, (results fn a.tmps).run G.P E.w = .ok x E.w ∧ VR E r x := by
  have hmap : ∀ (vs : List ResultVar) (rs : List AV), vs.mapM (resAV G.P st) = some rs →
      ∃ xs : List Value, (vs.mapM (resSem a.tmps)).run G.P E.w = .ok xs E.w ∧ rs.length = xs.length ∧ vs.length = xs.length ∧
        ∀ (i : Nat) r x, rs[i]? = some r → xs[i]? = some x → VR E r x := by
    intro vs
    induction vs with
    | nil => intro rs h; simp at h; subst h; exact ⟨[], by simp, rfl, rfl, by simp⟩
    | cons v vs ih =>
      intro rs h
      simp only [List.mapM_cons, Option.bind_eq_bind, Option.bind_eq_some_iff, Option.pure_def, Option.some.injEq] at h
      obtain ⟨r0, hr0, rs', hrs', rfl⟩ := h
      obtain ⟨x, hx1, hx2⟩ := run_resAV hr hr0
      obtain ⟨xs, hxs1, hxs2, hxs4, hxs3⟩ := ih rs' hrs'
      refine ⟨x :: xs, ?_, by simp [hxs2], by simp [hxs4], fun i r y hri hy => ?_⟩
      · rw [List.mapM_cons, Sem.run_bind, hx1]
        simp only [Result.andThen_ok, Sem.run_bind, hxs1, Sem.run_pure]
      · cases i with
        | zero => simp at hri hy; subst hri; subst hy; exact hx2
        | succ i => exact hxs3 i r y (by simpa using hri) (by simpa using hy)
  rw [results_eq]
  have hres : ∀ (f : ResultVar → Sem Value), (fn.results.mapM f).run G.P E.w = ((fn.results.toList.mapM f).run G.P E.w).andThen fun l w => .ok l.toArray w := by
    intro f
    rw [Array.mapM_eq_mapM_toList, Sem.run_map]
  unfold resIn at h
  split at h
  · rename_i v hv
    obtain ⟨x, hx1, hx2⟩ := run_resAV hr h
    refine ⟨x, ?_, hx2⟩
    rw [Sem.run_bind, hres, hv, List.mapM_cons, List.mapM_nil]
    simp only [Sem.run_bind, Sem.run_pure, Result.andThen_ok]
    rw [hx1]
    rfl
  · rename_i hvs
    obtain ⟨rs, hrs, rfl⟩ := Option.map_eq_some_iff.1 h
    obtain ⟨xs, hxs1, hxs2, hxs4, hxs3⟩ := hmap _ rs hrs
    have hone : xs.length ≠ 1 := fun h1 => by
      obtain ⟨v, hv⟩ := List.length_eq_one_iff.1 (hxs4.trans h1)
      exact hvs v hv
    refine ⟨.tuple xs.toArray, ?_, .tup _ _ (by simpa using hxs2) fun i c hi => ?_⟩
    · rw [Sem.run_bind, hres, hxs1]
      simp only [Result.andThen_ok, Sem.run_pure]
      rw [dif_neg (by simpa using hone)]
    · have hi' : i < xs.length := by rw [← hxs2]; exact (List.getElem?_eq_some_iff.1 hi).1
      have := hxs3 i c xs[i] hi (List.getElem?_eq_getElem hi')
      simpa [Array.getD_eq_getD_getElem?, hi'] using this

/-- What a callee that is walked in place must come to. -/
def PostIn (P : Program) (rvs : List ResultVar) (st : St) (dst : Option Tmp) (K : St → Prop) : Exit → St → Prop
  | .normal, s | .ret, s => ∃ ids r, resIn P (s.freezes ids) rvs = some r ∧ K ((st.mem (s.freezes ids)).put dst r)
  | _, _ => False
theorem PostIn.ret {P : Program} {rvs : List ResultVar} {dst : Option Tmp} {K : St → Prop} {s : St} {r : AV} (h : resIn P s rvs = some r) (hk : K ((st.mem s).put dst r)) : PostIn P rvs st dst K .ret s := ⟨[], r, h, hk⟩
theorem PostIn.normal {P : Program} {rvs : List ResultVar} {dst : Option Tmp} {K : St → Prop} {s : St} {r : AV} (h : resIn P s rvs = some r) (hk : K ((st.mem s).put dst r)) : PostIn P rvs st dst K .normal s := ⟨[], r, h, hk⟩

/-- What a body comes to, as a call's ending. -/
theorem calls_inline (hr : Rel G st E a) {g : FuncId} {fn : Func} {c : Code} {args : List AV} {vs : Array Value} {n : Nat} {ids : Nat → Nat} {R : Ending → World → Prop} {QI : St → Prop} (hf : G.P.funcs[g]? = some fn) (hb : fn.body = some c) (hnt : fn.ntmps = n) (hn : args.length ≤ n)
    (hl : vs.size = args.length) (hv : ∀ (i : Nat) p, args[i]? = some p → VR E p (vs.getD i undef))
    (h : AWp ⟨G.P, G.w0, G.S0, n, none, ids, some E⟩ c (fun e s => (e = .normal ∨ e = .ret) ∧ QI s) ⟨argAt args, st.ver, st.h⟩)
    (hend : ∀ s E' a', Rel ⟨G.P, G.w0, G.S0, n, none, ids, some E⟩ s E' a' → QI s → ∃ x, (results fn a'.tmps).run G.P E'.w = .ok x E'.w ∧ R (.returned x) E'.w) : CallsIn Fence.wide 0 G.P g vs E.w R := by
  subst hnt
  have hrel := hr.enter (n := fn.ntmps) (rnd := none) (ids := ids) hl hn hv
  refine callsIn_of_wp_marks hf hb trivial (wpIn_mono (h E _ hrel) ?_)
  rintro e a' w' ⟨s, E', rfl, h2, he, hq⟩
  have fin : LeavesInM Fence.wide 0 G.P fn a'.tmps R a'.defers .returning E'.w := leaves_marks (G := ⟨G.P, G.w0, G.S0, fn.ntmps, none, ids, some E⟩) (st := s) _ rfl h2 fun E3 h3 => hend s E3 { a' with defers := [] } h3 hq
  rcases he with rfl | rfl
  · exact fin
  · exact fin

/-- A call whose callee is walked in place. -/
theorem CallSem.inline (sh : Nat) {g : FuncId} {fn : Func} {c : Code} {args : List AV} {dst : Option Tmp} {K : St → Prop} {n : Nat} {rvs : List ResultVar} (hf : G.P.funcs[g]? = some fn) (hb : fn.body = some c) (hname : (fn.name == "runtime.NumGoroutine") = false) (hnt : fn.ntmps = n) (hrv : fn.results.toList = rvs) (hn : args.length ≤ n) (hd : dstOK G.n dst)
    (h : ∀ e0, AWp ⟨G.P, G.w0, G.S0, n, none, fun d => d + sh, e0⟩ c (PostIn G.P rvs st dst K) ⟨argAt args, st.ver, st.h⟩) : CallSem G g args dst K st := by
  refine ⟨⟨fn, hf, by rw [hb]; rfl, hname⟩, fun E a vs hr hl hv => ?_⟩
  rw [← callsIn_wide (n := 0)]
  refine calls_inline hr (QI := fun s => ∃ ids r, resIn G.P (s.freezes ids) rvs = some r ∧ K ((st.mem (s.freezes ids)).put dst r)) hf hb hnt hn hl hv (AWp.mono (h (some E)) ?_) ?_
  · intro e s hq
    cases e with
    | normal => exact ⟨.inl rfl, hq⟩
    | ret => exact ⟨.inr rfl, hq⟩
    | _ => exact hq.elim
  · rintro s E' a' hr' ⟨fz, r, hres, hk⟩
    obtain ⟨E2, hw2, hr2⟩ := hr'.freezes fz
    subst hrv
    obtain ⟨x, hx1, hx2⟩ := run_resIn hr2 fn r hres
    rw [hw2] at hx1
    refine ⟨x, hx1, x, rfl, _, E2, hw2, (hr.back hr2 rfl rfl rfl).put hx2 (fun d he => by rw [he] at hd; exact hd), hk⟩

/-! ### Loops over functions -/

/-- The record of a loop. -/
def recB (r : Loop) (s : LoopState) (p : Option Code) : Blk := .obj (.loop { r with state := s, pending := p })

theorem setH_self (st : St) (id : Nat) : st.setH id (st.h id) = st := by
  unfold St.setH
  have : upd st.h id (st.h id) = st.h := by funext j; by_cases h : j = id <;> simp [upd, h]
  rw [this]

/-- The object of an own block turns. -/
theorem Rel.objSet (hr : Rel G st E a) {id : Nat} {x : Obj} (hh : st.h id = .obj x) (y : Obj) : Rel G (st.setH id (.obj y)) { E with w := E.w.putObj (E.own id).blk y } a := by
  have hb := hr.blocks id
  rw [hh] at hb
  obtain ⟨h1, h2, h3⟩ := hb
  have hlt := (Array.getElem?_eq_some_iff.1 h1).1
  have hr' := hr.own (E' := { E with w := E.w.putObj (E.own id).blk y }) id (.obj y) (E.own id) (E.ver id) (by funext j; by_cases h : j = id <;> simp [upd, h]) (Nat.le_refl _) (by funext j; by_cases h : j = id <;> simp [upd, h]) (fun _ => rfl) rfl
    (below_putObj hr.below h2 _) (by rw [World.putObj_size]; exact Nat.le_refl _) (fun b hb hne => World.putObj_heap_other (fun he => hne (by rw [hh, he]; rfl))) ⟨World.putObj_heap_same hlt, h2, h3⟩ (fun b hb => .inl (by rw [hh]; exact hb))
  have he : upd st.ver id (E.ver id) = st.ver := by funext j; by_cases h : j = id <;> simp [upd, h, hr.ver]
  rw [he] at hr'
  exact hr'

/-- Slots, with a round's values in theirs. -/
def fillSlots (σ : Nat → AV) : List Tmp → List AV → Nat → AV
  | t :: ts, v :: vs => fillSlots (upd σ t v) ts vs
  | _, _ => σ

theorem fillSlots_rel {E : Env} {n : Nat} : ∀ (ps : List Tmp) (args : List AV) (vs : List Value) (σ : Nat → AV) (tm : Array Value), tm.size = n → (∀ t ∈ ps, t < n) → args.length = vs.length → (∀ j, VR E (σ j) (tm.getD j undef)) → (∀ (i : Nat) p v, args[i]? = some p → vs[i]? = some v → VR E p v) →
    ((ps.zip vs).foldl (fun tmps (x : Tmp × Value) => tmps.setIfInBounds x.1 x.2) tm).size = n ∧ ∀ j, VR E (fillSlots σ ps args j) (((ps.zip vs).foldl (fun tmps (x : Tmp × Value) => tmps.setIfInBounds x.1 x.2) tm).getD j undef)
  | [], args, vs, σ, tm, hs, _, _, h, _ => by cases args <;> exact ⟨hs, h⟩
  | t :: ps, [], [], σ, tm, hs, _, _, h, _ => ⟨hs, h⟩
  | t :: ps, [], v :: vs, σ, tm, hs, _, hl, h, _ => by simp at hl
  | t :: ps, p :: args, [], σ, tm, hs, _, hl, h, _ => by simp at hl
  | t :: ps, p :: args, v :: vs, σ, tm, hs, hlt, hl, h, hv => by
    simp only [List.zip_cons_cons, List.foldl_cons, fillSlots]
    refine fillSlots_rel ps args vs (upd σ t p) (tm.setIfInBounds t v) (by simpa using hs) (fun t' h' => hlt t' (.tail _ h')) (by simpa using hl) (fun j => ?_) fun i p' v' h1 h2 => hv (i + 1) p' v' (by simpa using h1) (by simpa using h2)
    have htn := hlt t (by simp)
    by_cases hj : j = t
    · subst hj
      simp only [upd, if_true]
      have : (tm.setIfInBounds j v).getD j undef = v := by simp [Array.getD_eq_getD_getElem?, hs, htn]
      rw [this]; exact hv 0 p v rfl rfl
    · simp only [upd, hj, if_false]
      have : (tm.setIfInBounds t v).getD j undef = tm.getD j undef := by simp [Array.getD_eq_getD_getElem?, Array.getElem?_setIfInBounds_ne (Ne.symm hj)]
      rw [this]; exact h j

/-- What a round must come to. -/
def PostRound (R V : Nat) (r : Loop) (si : St) (dst : Option Tmp) (K : St → Prop) : Exit → St → Prop
  | .normal, s => (s.ver R = V ∧ s.h R = recB r .busy none) ∧ K ((si.mem (s.setH R (recB r .ready none))).put dst (.v (.bool true)))
  | .ret, s => (s.ver R = V ∧ s.h R = recB r .busy none) ∧ K ((si.mem (s.setH R (recB r .done (some .ret)))).put dst (.v (.bool false)))
  | .exit id, s => (s.ver R = V ∧ s.h R = recB r .busy none) ∧ K ((si.mem (s.setH R (recB r .done (some (.exit id))))).put dst (.v (.bool false)))
  | _, _ => False
/-- What the assignment ahead of a round must come to. -/
def PostAssign (G : Ctx) (l R V : Nat) (r : Loop) (body : Code) (Q : Exit → St → Prop) : Exit → St → Prop
  | .normal, s => (s.ver R = V ∧ s.h R = recB r .ready none) ∧ ∀ e0, AWp ⟨G.P, G.w0, G.S0, G.n, some l, G.ids, e0⟩ body Q (s.setH R (recB r .busy none))
  | _, _ => False

theorem PostAssign.mono {G : Ctx} {l R V : Nat} {r : Loop} {body : Code} {Q Q' : Exit → St → Prop} (hq : ∀ e s, Q e s → Q' e s) {e : Exit} {s : St} (h : PostAssign G l R V r body Q e s) : PostAssign G l R V r body Q' e s := by
  cases e with
  | normal => exact ⟨h.1, fun e0 => AWp.mono (h.2 e0) hq⟩
  | _ => exact h

/-- What is known of a loop's record: it is the one that was laid when the walk 'G' in state 'st' came to the loop. -/
structure LoopOf (G : Ctx) (st : St) (ps : Array Tmp) (assign body : Code) (R V l : Nat) (r : Loop) (G' : Ctx) : Prop where
  P : G'.P = G.P
  w0 : G'.w0 = G.w0
  S0 : G'.S0 = G.S0
  F : G'.F = Fence.wide
  ex : ∃ (E0 : Env) (a0 : Act), G'.e0 = some E0 ∧ r.tmps = a0.tmps ∧ a0.tmps.size = G.n ∧ (∀ j, VR E0 (st.σ j) (a0.tmps.getD j undef)) ∧ E0.ver R = V ∧ (E0.own R).blk = l
  params : r.params = ps
  assign : r.assign = assign
  body : r.body = body

/-- A call of yield: one round of the loop. -/
theorem YieldSem.round {G : Ctx} {st : St} {ps : Array Tmp} {assign body : Code} {R V l : Nat} {r : Loop} {G' : Ctx} (L : LoopOf G st ps assign body R V l r G') {args : List AV} {dst : Option Tmp} {K : St → Prop} {si : St} (hd : dstOK G'.n dst) (hargs : args.length = ps.size) (hps : ∀ t ∈ ps.toList, t < G.n)
    (hV : si.ver R = V) (hR : si.h R = recB r .ready none)
    (h : ∀ e0, AWp ⟨G.P, G.w0, G.S0, G.n, some l, G.ids, e0⟩ assign (PostAssign G l R V r body (PostRound R V r si dst K)) ⟨fillSlots st.σ ps.toList args, si.ver, si.h⟩) : YieldSem G' l args dst K si := by
  intro E a vs hr hl hv
  obtain ⟨E0, a0, he0, htm, hsz, hsl, hv0, hl0⟩ := L.ex
  have hle := hr.le0 E0 he0
  have hown : (E.own R).blk = l := by rw [hle.own R (by rw [hv0, hr.ver, hV]), hl0]
  have hblk := hr.blocks R
  rw [hR] at hblk
  obtain ⟨g1, g2, g3⟩ := hblk
  rw [hown] at g1
  rw [L.P]
  refine ⟨r.fn, _, r.assign, r.body, run_yield (r := { r with state := .ready, pending := none }) g1 (by simp [L.params, hl, hargs]), ?_⟩
  have hF : G'.F = Fence.wide := L.F
  rw [hF]
  refine roundIn_of_wpIn trivial ?_
  have hvs : ∀ (i : Nat) p v, args[i]? = some p → vs.toList[i]? = some v → VR E p v := fun i p v hp hv' => by
    have := hv i p hp
    rw [Array.getElem?_toList] at hv'
    simpa [Array.getD_eq_getD_getElem?, hv'] using this
  obtain ⟨hsz', hslots⟩ := fillSlots_rel (E := E) ps.toList args vs.toList st.σ r.tmps (by rw [htm]; exact hsz) hps (by simpa using hl.symm) (fun j => by rw [htm]; exact (hsl j).mono hle) hvs
  have hfold : (r.params.zip vs).foldl (fun tmps (x : Tmp × Value) => tmps.setIfInBounds x.1 x.2) r.tmps = (ps.toList.zip vs.toList).foldl (fun tmps (x : Tmp × Value) => tmps.setIfInBounds x.1 x.2) r.tmps := by
    rw [L.params, ← Array.foldl_toList]; simp
  have hrel : Rel ⟨G.P, G.w0, G.S0, G.n, some l, G.ids, some E⟩ ⟨fillSlots st.σ ps.toList args, si.ver, si.h⟩ E { tmps := (ps.toList.zip vs.toList).foldl (fun tmps (x : Tmp × Value) => tmps.setIfInBounds x.1 x.2) r.tmps, defers := [] } := by
    refine ⟨hsz', fun d hd => (by simp at hd), List.Pairwise.nil, fun E0 h => (by cases h; exact .refl _), hr.ver, by rw [← L.w0]; exact hr.below, hr.Slt, by rw [← L.S0]; exact hr.S0, by rw [← L.S0, ← L.w0]; exact hr.Snew, hslots, by rw [← L.w0]; exact hr.blocks, hr.apart⟩
  have hw := h (some E) E _ hrel
  rw [L.assign, L.body]
  have hrew : ({ tmps := (r.params.zip vs).foldl (fun tmps (x : Tmp × Value) => tmps.setIfInBounds x.1 x.2) r.tmps, defers := [] } : Act) = { tmps := (ps.toList.zip vs.toList).foldl (fun tmps (x : Tmp × Value) => tmps.setIfInBounds x.1 x.2) r.tmps, defers := [] } := by rw [hfold]
  refine (congrArg (fun x => Code.wpIn (Fence.wide.inRound l) 0 G.P assign _ x E.w) hrew).mpr ?_
  refine wpIn_mono hw ?_
  rintro e a1 w1 ⟨s1, E1, rfl, hr1, hq⟩
  cases e with
  | normal =>
    obtain ⟨⟨hv1, hR1⟩, hbody⟩ := hq
    have hle1 : E.Le E1 := hr1.le0 E rfl
    have hown1 : (E1.own R).blk = l := by rw [hle1.own R (by rw [hr1.ver, hv1, hr.ver, hV]), hown]
    have hb1 := hr1.blocks R
    rw [hR1] at hb1
    have hrec := hb1.1
    rw [hown1] at hrec
    refine ⟨_, run_beginRound hrec rfl, ?_⟩
    have hr1' := hr1.objSet hR1 (.loop { r with state := .busy, pending := none })
    rw [hown1] at hr1'
    have hw2 := hbody (some E) _ _ hr1'
    refine wpIn_mono hw2 ?_
    rintro e a2 w2 ⟨s2, E2, rfl, hr2, hq2⟩
    have hle2 : E.Le E2 := hr2.le0 E rfl
    have fin : ∀ (ls : LoopState) (j : Option Code), s2.ver R = V → s2.h R = recB r .busy none → Rel G' (si.mem (s2.setH R (recB r ls j))) { E2 with w := E2.w.putObj l (.loop { r with state := ls, pending := j }) } a ∧ E2.w.heap[l]? = some (.loop { r with state := .busy, pending := none }) := fun ls j hv2 hR2 => by
      have hown2 : (E2.own R).blk = l := by rw [hle2.own R (by rw [hr2.ver, hv2, hr.ver, hV]), hown]
      have hb2 := hr2.blocks R
      rw [hR2] at hb2
      have hrec2 := hb2.1
      rw [hown2] at hrec2
      have h3 := hr2.objSet hR2 (.loop { r with state := ls, pending := j })
      rw [hown2] at h3
      exact ⟨hr.back h3 L.w0.symm L.S0.symm rfl, hrec2⟩
    cases e with
    | normal =>
      obtain ⟨⟨hv2, hR2⟩, hk⟩ := hq2
      obtain ⟨h4, h5⟩ := fin .ready none hv2 hR2
      exact ⟨_, _, run_endRound none h5, _, rfl, _, _, rfl, h4.put (.v _) (fun d he => by rw [he] at hd; exact hd), hk⟩
    | ret =>
      obtain ⟨⟨hv2, hR2⟩, hk⟩ := hq2
      obtain ⟨h4, h5⟩ := fin .done (some .ret) hv2 hR2
      exact ⟨_, _, run_endRound (some .ret) h5, _, rfl, _, _, rfl, h4.put (.v _) (fun d he => by rw [he] at hd; exact hd), hk⟩
    | exit id =>
      obtain ⟨⟨hv2, hR2⟩, hk⟩ := hq2
      obtain ⟨h4, h5⟩ := fin .done (some (.exit id)) hv2 hR2
      exact ⟨_, _, run_endRound (some (.exit id)) h5, _, rfl, _, _, rfl, h4.put (.v _) (fun d he => by rw [he] at hd; exact hd), hk⟩
    | goto _ => exact hq2.elim
    | panic _ => exact hq2.elim
    | outgrown => exact hq2.elim
  | _ => exact hq.elim

/-- What the iterator must come to. -/
def PostIter (G : Ctx) (st : St) (R V : Nat) (r : Loop) (Q : Exit → St → Prop) : Exit → St → Prop
  | .normal, s | .ret, s => s.ver R = V ∧ ((s.h R = recB r .ready none ∧ Q .normal (st.mem (s.setH R .none))) ∨ (∃ c, s.h R = recB r .done (some c) ∧ AWp G c Q (st.mem (s.setH R .none))))
  | _, _ => False

/-- A new object of the walk's own. -/
theorem Rel.objOwn (hr : Rel G st E a) (o : Obj) (id : Nat) :
    ∃ E', E'.w = E.w.alloc o ∧ E'.S = E.S ∧ Rel G { st with ver := upd st.ver id (st.ver id + 1), h := upd st.h id (.obj o) } E' a ∧ (E'.own id).blk = E.w.heap.size ∧ E.Le E' := by
  have hve : E.ver id = st.ver id := by rw [hr.ver]
  have hle : E.Le { ver := upd E.ver id (st.ver id + 1), own := upd E.own id ⟨.pointer none, E.w.heap.size, 0⟩, S := E.S, w := E.w.alloc o } :=
    ⟨fun _ h => h, fun b hb => heap_alloc_lt _ _ b (hr.Slt b hb), fun j => by by_cases h : j = id <;> simp [upd, h, hve], fun j hj => by
      by_cases h : j = id
      · subst h; simp [upd, hve] at hj
      · simp [upd, h]⟩
  refine ⟨{ ver := upd E.ver id (st.ver id + 1), own := upd E.own id ⟨.pointer none, E.w.heap.size, 0⟩, S := E.S, w := E.w.alloc o }, rfl, rfl, ?_, by simp [upd], hle⟩
  refine hr.own id (.obj o) ⟨.pointer none, E.w.heap.size, 0⟩ (st.ver id + 1) rfl (by omega) rfl (fun h => by omega) rfl (hr.below.alloc hr.below.size _) (by simp) (fun b hb _ => heap_alloc_lt _ _ b hb) ?_ ?_
  · exact ⟨heap_alloc_new _ _, hr.below.size, fun h => absurd (hr.Slt _ h) (by simp)⟩
  · intro b hb; simp only [Blk.at, Option.some.injEq] at hb; subst hb; exact .inr (Nat.le_refl _)

/-- An own block is given up. -/
theorem Rel.drop (hr : Rel G st E a) (id : Nat) : Rel G (st.setH id .none) E a := by
  refine ⟨hr.size, hr.defers, hr.once, hr.le0, hr.ver, hr.below, hr.Slt, hr.S0, hr.Snew, hr.slots, fun j => ?_, fun j j' b hne => ?_⟩
  · by_cases hj : j = id
    · subst hj; simp only [St.setH, upd, if_true]; trivial
    · simp only [St.setH, upd, hj, if_false]; exact hr.blocks j
  · simp only [St.setH, upd]
    by_cases hj : j = id
    · rw [if_pos hj]; intro h; cases h
    · rw [if_neg hj]
      by_cases hj' : j' = id
      · rw [if_pos hj']; intro _ h; cases h
      · rw [if_neg hj']; exact hr.apart j j' b hne

/-- 'for .. := range g { .. }' where g is a function whose body is known: it is walked in place; its calls of yield are the rounds. -/
theorem AWp.rangeFunc {g : Operand} {ps : Array Tmp} {assign body : Code} {Q : Exit → St → Prop} {f : FuncId} {first captured : List AV} (R sh : Nat) {fn : Func} {c : Code} {n : Nat} (hrnd : G.rnd = none) (hg : st.ev g = .fn (.func f) first captured)
    (hf : G.P.funcs[f]? = some fn) (hb : fn.body = some c) (hname : (fn.name == "runtime.NumGoroutine") = false) (hnt : fn.ntmps = n) (hres : fn.results.toList = []) (hn : (first ++ (AV.junk :: captured)).length ≤ n)
    (h : ∀ l r e0, LoopOf G st ps assign body R (st.ver R + 1) l r ⟨G.P, G.w0, G.S0, n, none, fun d => d + sh, e0⟩ →
      AWp ⟨G.P, G.w0, G.S0, n, none, fun d => d + sh, e0⟩ c (PostIter G st R (st.ver R + 1) r Q) ⟨argAt (first ++ (.v (.func (.yield l) #[] #[]) :: captured)), upd st.ver R (st.ver R + 1), upd st.h R (recB r .ready none)⟩) :
    AWp G (.rangeFunc g ps assign body) Q st := by
  intro E a hr
  have hF : G.F = Fence.wide := by unfold Ctx.F; rw [hrnd]; rfl
  refine wpIn_rangeFunc fun fid _ => ?_
  let rec0 : Loop := { state := .ready, pending := none, fn := fid, tmps := a.tmps, params := ps, assign := assign, body := body, defers := E.w.heap.size }
  let d0 : Deferred := { target := .collected E.w.heap.size, args := #[] }
  have hr1 := hr.frozen (.deferred (some []))
  obtain ⟨E2, hw2, hS2, hr2, hl2, hle2⟩ := hr1.objOwn (.loop rec0) R
  have hw2' : E2.w = (E.w.alloc (.deferred (some []))).alloc (.loop rec0) := hw2
  have hEle : E.Le E2 := (E.le_frozen hr.Slt _).trans hle2
  have hl : (E2.own R).blk = E.w.heap.size + 1 := by rw [hl2]; show (E.w.alloc (.deferred (some []))).heap.size = _; simp
  have hmark : E2.w.heap[E.w.heap.size]? = some (.deferred (some [])) := by
    rw [hw2', heap_alloc_lt _ _ _ (by simp), heap_alloc_new]
  have hr2' : Rel G { st with ver := upd st.ver R (st.ver R + 1), h := upd st.h R (recB rec0 .ready none) } E2 { a with defers := [d0] ++ a.defers } := by
    refine ⟨hr2.size, fun d hd => ?_, ?_, hr2.le0, hr2.ver, hr2.below, hr2.Slt, hr2.S0, hr2.Snew, hr2.slots, hr2.blocks, hr2.apart⟩
    · rcases List.mem_append.1 hd with hd | hd
      · simp only [List.mem_singleton] at hd
        subst hd
        exact ⟨E.w.heap.size, rfl, by rw [hS2]; exact .inr rfl, hr.below.size, hmark, fun E0 he hs => absurd (hr.Slt _ ((hr.le0 E0 he).S _ hs)) (by simp)⟩
      · exact hr2.defers d hd
    · rw [List.singleton_append, List.pairwise_cons]
      refine ⟨fun d hd he => ?_, hr.once⟩
      obtain ⟨r', h1, h2, _⟩ := hr.defers d hd
      rw [h1] at he
      have : E.w.heap.size = r' := by simpa [d0] using he
      exact absurd (hr.Slt _ h2) (by omega)
  have hvg := hr.ev g
  rw [hg] at hvg
  generalize hge : a.eval g = fv at hvg
  cases hvg with
  | fn _ _ _ us vs h1 h2 h3 h4 =>
    refine ⟨E.w.heap.size + 1, [d0], E2.w, ⟨.fn (.func f) vs, us ++ #[.func (.yield (E.w.heap.size + 1)) #[] #[]]⟩, E2.w, f, us ++ #[.func (.yield (E.w.heap.size + 1)) #[] #[]] ++ vs, E2.w, ?_, ?_, fun _ _ => trivial, ?_, fun h => (by cases h), ?_⟩
    · rw [hw2']
      have : G.F.round = none := hrnd
      rw [this]
      exact run_enterLoop_outer fid a.tmps ps assign body
    · have hc : ∀ x, a.eval (.const x) = x := fun _ => rfl
      simp [resolve, rangeCall, hge, Deferred.ofValue, hc]
    · have hname' : ¬ fn.name = "runtime.NumGoroutine" := by simpa using hname
      simp [invoke, callFunc, hf, hname', hb]
    · rw [hF]
      refine calls_inline (ids := fun d => d + sh) (R := _) (QI := fun s => s.ver R = st.ver R + 1 ∧ ((s.h R = recB rec0 .ready none ∧ Q .normal (st.mem (s.setH R .none))) ∨ (∃ c, s.h R = recB rec0 .done (some c) ∧ AWp G c Q (st.mem (s.setH R .none)))))
        hr2' hf hb hnt (args := first ++ (.v (.func (.yield (E.w.heap.size + 1)) #[] #[]) :: captured)) (by simpa using hn) (by simp [h1, h2]; omega) (fun i p hp => ?_) (AWp.mono (h (E.w.heap.size + 1) rec0 (some E2) ?_) ?_) ?_
      · rw [List.getElem?_append] at hp
        simp only [Array.getD_eq_getD_getElem?, Array.getElem?_append, Array.size_append, List.size_toArray, List.length_cons, List.length_nil]
        by_cases hi1 : i < first.length
        · rw [if_pos hi1] at hp
          rw [if_pos (by omega), if_pos (by omega)]
          have := (h3 i p hp).mono hEle
          simpa [Array.getD_eq_getD_getElem?] using this
        · rw [if_neg hi1] at hp
          cases hk : i - first.length with
          | zero =>
            rw [hk] at hp
            simp only [List.getElem?_cons_zero, Option.some.injEq] at hp
            subst hp
            rw [if_pos (by omega), if_neg (by omega), show i - us.size = 0 from by omega]
            exact .v _
          | succ k =>
            rw [hk] at hp
            simp only [List.getElem?_cons_succ] at hp
            rw [if_neg (by omega), show i - (us.size + (0 + 1)) = k from by omega]
            have := (h4 k p hp).mono hEle
            simpa [Array.getD_eq_getD_getElem?] using this
      · exact ⟨rfl, rfl, rfl, rfl, ⟨E2, a, rfl, rfl, hr.size, fun j => (hr.slots j).mono hEle, by rw [hr2.ver]; simp [upd], hl⟩, rfl, rfl, rfl⟩
      · intro e s hq
        cases e with
        | normal => exact ⟨.inl rfl, hq⟩
        | ret => exact ⟨.inr rfl, hq⟩
        | _ => exact hq.elim
      · rintro s E' a' hr' ⟨hv, hq⟩
        have hle : E2.Le E' := hr'.le0 E2 rfl
        have hown : (E'.own R).blk = E.w.heap.size + 1 := by rw [hle.own R (by rw [hr'.ver, hv, hr2.ver]; simp [upd]), hl]
        obtain ⟨x, hx, _⟩ := run_resIn hr' fn (.tup []) (by rw [hres]; rfl)
        refine ⟨x, hx, ?_⟩
        have fin : ∀ (ls : LoopState) (j : Option Code), ls ≠ .busy → s.h R = recB rec0 ls j → ∃ w4, (Instr.endLoop (E.w.heap.size + 1)).run G.P E'.w = .ok j w4 ∧ Rel G (st.mem (s.setH R .none)) { E' with w := w4 } { a with defers := [d0] ++ a.defers } := by
          intro ls j hls hR
          have hb' := hr'.blocks R
          rw [hR] at hb'
          have hrec := hb'.1
          rw [hown] at hrec
          refine ⟨_, run_endLoop hrec hls, ?_⟩
          have h5 := hr'.objSet hR (.loop { rec0 with state := .exhausted, pending := j })
          rw [hown] at h5
          have h6 := h5.drop R
          have h7 := hr2'.back h6 rfl rfl rfl
          have he : (s.setH R (.obj (.loop { rec0 with state := .exhausted, pending := j }))).setH R .none = s.setH R .none := by
            simp only [St.setH]; congr 1; funext i; by_cases h : i = R <;> simp [upd, h]
          rw [he] at h7
          exact h7
        rcases hq with ⟨hR, hk⟩ | ⟨cj, hR, hk⟩
        · obtain ⟨w4, h5, h6⟩ := fin .ready none (by simp) hR
          exact ⟨none, w4, h5, _, _, rfl, h6, hk⟩
        · obtain ⟨w4, h5, h6⟩ := fin .done (some cj) (by simp) hR
          refine ⟨some cj, w4, h5, ?_⟩
          have := hk _ _ h6
          rw [hF] at this
          exact this

/-- A variable of the walk's own that holds nil holds an own array without elements. -/
theorem AWp.ownNilBox (b id e sz : Nat) (hb : st.h b = .box [.v (.slice none 0 0)]) (hne : b ≠ id) {c : Code} {Q : Exit → St → Prop} (h : AWp G c Q ((st.setArr id e sz []).setH b (.box [.ref id (st.ver id + 1)]))) : AWp G c Q st := fun E a hr => by
  let o : Own := ⟨.slice none 0 0, 0, sz⟩
  let E' : Env := { ver := upd E.ver id (st.ver id + 1), own := upd E.own id o, S := E.S, w := E.w }
  have hve : E.ver id = st.ver id := by rw [hr.ver]
  have hr' : Rel G (st.setArr id e sz []) E' a := by
    refine hr.own id (.arr e sz []) o (st.ver id + 1) rfl (by omega) rfl (fun h => by omega) rfl hr.below (Nat.le_refl _) (fun b hb _ => rfl) ?_ ?_
    · exact ⟨rfl, [], ⟨by simp, .inl ⟨rfl, rfl⟩⟩, by simp, ⟨rfl, by simp⟩, fun b hb => by simp [o, Value.ownBlock] at hb⟩
    · intro b hb; simp [Blk.at, o, Value.ownBlock] at hb
  have hbb : (st.setArr id e sz []).h b = .box [.v (.slice none 0 0)] := by simp [St.setArr, upd, hne, hb]
  have hr2 : Rel G ((st.setArr id e sz []).setH b (.box [.ref id (st.ver id + 1)])) E' a := by
    refine ⟨hr'.size, hr'.defers, hr'.once, hr'.le0, hr'.ver, hr'.below, hr'.Slt, hr'.S0, hr'.Snew, hr'.slots, fun j => ?_, fun j j' b' hne' => ?_⟩
    · by_cases hj : j = b
      · subst hj
        have h0 := hr'.blocks j
        rw [hbb] at h0
        obtain ⟨us, t, h1, h2, h3, h4⟩ := h0
        simp only [St.setH, upd, if_true]
        refine ⟨us, t, h1, h2, h3, h4.1, fun i x u hx hu => ?_⟩
        cases i with
        | zero =>
          simp at hx
          subst hx
          have hv := h4.2 0 _ u rfl hu
          rw [hv.v_inv]
          exact .ref _ _ _ (by simp [E', upd]) fun _ => by simp [E', upd, o]
        | succ i => simp at hx
      · simp only [St.setH, upd, hj, if_false]; exact hr'.blocks j
    · have hat : ∀ j, ((st.setArr id e sz []).setH b (.box [.ref id (st.ver id + 1)])).h j = (st.setArr id e sz []).h j ∨ j = b := fun j => by
        by_cases hj : j = b
        · exact .inr hj
        · exact .inl (by simp [St.setH, upd, hj])
      have heq : ∀ j, (((st.setArr id e sz []).setH b (.box [.ref id (st.ver id + 1)])).h j).at (E'.own j) = ((st.setArr id e sz []).h j).at (E'.own j) := fun j => by
        rcases hat j with h | h
        · rw [h]
        · subst h; rw [hbb]; simp [St.setH, upd, Blk.at]
      rw [heq, heq]; exact hr'.apart j j' b' hne'
  exact h E' a hr2

/-- A slot that holds nil holds a list without elements. -/
theorem AWp.nilLst (d sz : Nat) {c : Code} {Q : Exit → St → Prop} (hd : st.σ d = .v (.slice none 0 0)) (h : AWp G c Q (st.put (some d) (.lst sz []))) : AWp G c Q st := fun E a hr =>
  h E a (hr.weaken fun x hx => by rw [hd] at hx; rw [hx.v_inv]; exact .lstNil _)

end
end Go.Abs
