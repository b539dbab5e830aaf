/- The proof layer, part 9: the walk of a region's operations on an abstract state. No condition. -/
import Derived.Test.YtckoolpjphhfdaaFy
import Derived.Laws.MakeOwn
import Derived.Maps.RangeRun
namespace Go.Abs
open Go Go.RowKit

def St.setBox (st : St) (id : Nat) (cs : List AV) : St := { st with ver := upd st.ver id (st.ver id + 1), h := upd st.h id (.box cs) }

section simps
variable (st : St) (d j : Nat) (r : AV) (id e sz : Nat) (xs cs : List AV)
theorem put_σ : (st.put (some d) r).σ j = if j = d then r else st.σ j := rfl
theorem put_ver : (st.put (some d) r).ver = st.ver := rfl
theorem put_h : (st.put (some d) r).h = st.h := rfl
theorem put_none : st.put none r = st := rfl
theorem setArr_σ : (st.setArr id e sz xs).σ = st.σ := rfl
theorem setArr_ver : (st.setArr id e sz xs).ver j = if j = id then st.ver id + 1 else st.ver j := rfl
theorem setArr_h : (st.setArr id e sz xs).h j = if j = id then .arr e sz xs else st.h j := rfl
theorem setBox_σ : (st.setBox id cs).σ = st.σ := rfl
theorem setBox_ver : (st.setBox id cs).ver j = if j = id then st.ver id + 1 else st.ver j := rfl
theorem setBox_h : (st.setBox id cs).h j = if j = id then .box cs else st.h j := rfl
theorem setMap_σ (es : Array MapEntry) (clk : Nat) : (st.setMap id es clk).σ = st.σ := rfl
theorem setMap_ver (es : Array MapEntry) (clk : Nat) : (st.setMap id es clk).ver j = if j = id then st.ver id + 1 else st.ver j := rfl
theorem setMap_h (es : Array MapEntry) (clk : Nat) : (st.setMap id es clk).h j = if j = id then .map es clk else st.h j := rfl
def St.setH (st : St) (id : Nat) (b : Blk) : St := { st with h := upd st.h id b }
theorem setH_σ (b : Blk) : (st.setH id b).σ = st.σ := rfl
theorem setH_ver (b : Blk) : (st.setH id b).ver = st.ver := rfl
theorem setH_h (b : Blk) : (st.setH id b).h j = if j = id then b else st.h j := rfl
theorem start_σ (args : List AV) : (startSt args).σ j = argAt args j := rfl
theorem start_ver (args : List AV) : (startSt args).ver j = 0 := rfl
theorem start_h (args : List AV) : (startSt args).h j = .none := rfl
end simps

/-- A call: whatever justifies it. 'rest': what is still to be walked. -/
def CallSem (G : Ctx) (g : FuncId) (args : List AV) (dst : Option Tmp) (K : St → Prop) (st : St) : Prop :=
  (∃ fn, G.P.funcs[g]? = some fn ∧ fn.body.isSome = true ∧ (fn.name == "runtime.NumGoroutine") = false) ∧
  ∀ E a (vs : Array Value), Rel G st E a → vs.size = args.length → (∀ (i : Nat) p, args[i]? = some p → VR E p (vs.getD i undef)) →
    Calls G.P g vs E.w fun e w' => ∃ v, e = .returned v ∧ ∃ st' E', E'.w = w' ∧ Rel G st' E' (a.put dst v) ∧ K st'

/-- A call of yield. -/
def YieldSem (G : Ctx) (l : Nat) (args : List AV) (dst : Option Tmp) (K : St → Prop) (st : St) : Prop :=
  ∀ E a (vs : Array Value), Rel G st E a → vs.size = args.length → (∀ (i : Nat) p, args[i]? = some p → VR E p (vs.getD i undef)) →
    ∃ f tmps assign body, (Instr.yield l vs).run G.P E.w = .ok (.round l f tmps assign body) E.w ∧
      RoundIn G.F 0 G.P l f tmps assign body E.w fun e w' => ∃ v, e = .returned v ∧ ∃ st' E', E'.w = w' ∧ Rel G st' E' (a.put dst v) ∧ K st'

/-- The elements of a list whose value may be nil or not. -/
def nilSrc (st : St) : AV → Option (List AV)
  | .lst _ xs => some xs
  | .ref id k => if k = st.ver id then
      match st.h id with
      | .arr _ _ xs => some xs
      | _ => none
    else none
  | _ => none

theorem nilSrc_of_bin {P : Program} {st : St} {op : BinOp} {t : TypeId} {p q r : AV} (h : binAV P op t p q = some r) : nilSrc st p = none := by
  cases p <;> first | rfl | (simp [binAV] at h)

/-! What the walk goes on with is looked into only when the value ahead of it is known. -/
def bindP {α : Type} (o : Option α) (K : α → Prop) : Prop := ∃ a, o = some a ∧ K a
theorem bindP_some {α : Type} (a : α) (K : α → Prop) : bindP (some a) K = K a := by simp [bindP]
theorem bindP_none {α : Type} (K : α → Prop) : bindP none K = False := by simp [bindP]
@[congr] theorem bindP_congr {α : Type} {o o' : Option α} {K : α → Prop} (h : o = o') : bindP o K = bindP o' K := by rw [h]
def onBool (p : AV) (K : Bool → Prop) : Prop := ∃ b, p = .v (.bool b) ∧ K b
theorem onBool_v (b : Bool) (K : Bool → Prop) : onBool (.v (.bool b)) K = K b := by simp [onBool]
@[congr] theorem onBool_congr {p p' : AV} {K : Bool → Prop} (h : p = p') : onBool p K = onBool p' K := by rw [h]
def onFn (p : AV) (K : FuncId → List AV → List AV → Prop) : Prop := ∃ g first captured, p = .fn (.func g) first captured ∧ K g first captured
theorem onFn_v (g : FuncId) (first captured : List AV) (K : FuncId → List AV → List AV → Prop) : onFn (.fn (.func g) first captured) K = K g first captured := propext ⟨fun ⟨_, _, _, he, h⟩ => by cases he; exact h, fun h => ⟨_, _, _, rfl, h⟩⟩
@[congr] theorem onFn_congr {p p' : AV} {K : FuncId → List AV → List AV → Prop} (h : p = p') : onFn p K = onFn p' K := by rw [h]
def onFn2 (p : AV) (K : FuncId → List AV → List AV → Prop) (Y : Nat → Prop) : Prop := onFn p K ∨ ∃ l, p = .v (.func (.yield l) #[] #[]) ∧ Y l
theorem onFn2_v (g : FuncId) (first captured : List AV) (K : FuncId → List AV → List AV → Prop) (Y : Nat → Prop) : onFn2 (.fn (.func g) first captured) K Y = K g first captured := by
  unfold onFn2
  rw [onFn_v]
  exact propext ⟨fun h => h.elim id fun ⟨_, he, _⟩ => (by cases he), .inl⟩
theorem onFn2_y (l : Nat) (K : FuncId → List AV → List AV → Prop) (Y : Nat → Prop) : onFn2 (.v (.func (.yield l) #[] #[])) K Y = Y l := by
  unfold onFn2 onFn
  exact propext ⟨fun h => h.elim (fun ⟨_, _, _, he, _⟩ => (by cases he)) (fun ⟨_, he, hy⟩ => (by cases he; exact hy)), fun h => .inr ⟨l, rfl, h⟩⟩
@[congr] theorem onFn2_congr {p p' : AV} {K : FuncId → List AV → List AV → Prop} {Y : Nat → Prop} (h : p = p') : onFn2 p K Y = onFn2 p' K Y := by rw [h]
def onNil (o : Option (List AV)) (A : List AV → Prop) (B : Prop) : Prop := (∃ xs, o = some xs ∧ A xs) ∨ (o = none ∧ B)
theorem onNil_some (xs : List AV) (A : List AV → Prop) (B : Prop) : onNil (some xs) A B = A xs := by simp [onNil]
theorem onNil_none (A : List AV → Prop) (B : Prop) : onNil none A B = B := by simp [onNil]
@[congr] theorem onNil_congr {o o' : Option (List AV)} {A : List AV → Prop} {B : Prop} (h : o = o') : onNil o A B = onNil o' A B := by rw [h]

def fullOf : AV → Option (Nat × List AV)
  | .full sz xs => some (sz, xs)
  | _ => none
theorem fullOf_eq {p : AV} {sz : Nat} {xs : List AV} (h : fullOf p = some (sz, xs)) : p = .full sz xs := by
  unfold fullOf at h
  split at h
  · cases h; rfl
  · cases h
def onFull (o : Option (Nat × List AV)) (A : Nat → List AV → Prop) (B : Prop) : Prop := (∃ sz xs, o = some (sz, xs) ∧ A sz xs) ∨ (o = none ∧ B)
theorem onFull_some (sz : Nat) (xs : List AV) (A : Nat → List AV → Prop) (B : Prop) : onFull (some (sz, xs)) A B = A sz xs :=
  propext ⟨fun h => h.elim (fun ⟨_, _, he, h⟩ => by cases he; exact h) (fun ⟨he, _⟩ => by cases he), fun h => .inl ⟨_, _, rfl, h⟩⟩
theorem onFull_none (A : Nat → List AV → Prop) (B : Prop) : onFull none A B = B := by simp [onFull]
@[congr] theorem onFull_congr {o o' : Option (Nat × List AV)} {A : Nat → List AV → Prop} {B : Prop} (h : o = o') : onFull o A B = onFull o' A B := by rw [h]

def onOsl (o : Option (Nat × Nat × Nat × List AV × Nat × Nat)) (A : Nat → Nat → Nat → List AV → Nat → Nat → Prop) (B : Prop) : Prop := (∃ id e sz xs lo hi, o = some (id, e, sz, xs, lo, hi) ∧ A id e sz xs lo hi) ∨ (o = none ∧ B)
theorem onOsl_some (id e sz : Nat) (xs : List AV) (lo hi : Nat) (A : Nat → Nat → Nat → List AV → Nat → Nat → Prop) (B : Prop) : onOsl (some (id, e, sz, xs, lo, hi)) A B = A id e sz xs lo hi :=
  propext ⟨fun h => h.elim (fun ⟨_, _, _, _, _, _, he, h⟩ => by cases he; exact h) (fun ⟨he, _⟩ => by cases he), fun h => .inl ⟨_, _, _, _, _, _, rfl, h⟩⟩
theorem onOsl_none (A : Nat → Nat → Nat → List AV → Nat → Nat → Prop) (B : Prop) : onOsl none A B = B := by simp [onOsl]
@[congr] theorem onOsl_congr {o o' : Option (Nat × Nat × Nat × List AV × Nat × Nat)} {A : Nat → Nat → Nat → List AV → Nat → Nat → Prop} {B : Prop} (h : o = o') : onOsl o A B = onOsl o' A B := by rw [h]
/-- The head of an own array that nothing is appended to. -/
def St.cut (st : St) (id e sz : Nat) (xs : List AV) : St := st.setArr id e sz xs

/-! ### Ranges over maps that are written no more -/

def St.setIter (st : St) (id : Nat) (es : Array MapEntry) (clk : Nat) (done : List MapEntry) : St := { st with ver := upd st.ver id (st.ver id + 1), h := upd st.h id (.iter es clk done) }
def onMapv (p : AV) (f : Array MapEntry → Nat → Prop) : Prop :=
  match p with
  | .mapv es clk => f es clk
  | _ => False
theorem onMapv_v (es : Array MapEntry) (clk : Nat) (f : Array MapEntry → Nat → Prop) : onMapv (.mapv es clk) f = f es clk := Eq.trans rfl rfl
@[congr] theorem onMapv_congr {p p' : AV} {f : Array MapEntry → Nat → Prop} (h : p = p') : onMapv p f = onMapv p' f := by rw [h]
/-- A map that is ranged over: one of the walk's own is written no more from here on. -/
def onMapF (st : St) (p : AV) (f : Array MapEntry → Nat → St → Prop) : Prop :=
  match p with
  | .mapv es clk => f es clk st
  | .ref id k => k = st.ver id ∧ match st.h id with
    | .map es clk => f es clk (st.freeze id)
    | _ => False
  | _ => False
@[congr] theorem onMapF_congr {st st' : St} {p p' : AV} {f : Array MapEntry → Nat → St → Prop} (h : st = st') (hp : p = p') : onMapF st p f = onMapF st' p' f := by rw [h, hp]
def onIterB (b : Blk) (f : Array MapEntry → Nat → List MapEntry → Prop) : Prop :=
  match b with
  | .iter es clk done => f es clk done
  | _ => False
theorem onIterB_v (es : Array MapEntry) (clk : Nat) (done : List MapEntry) (f : Array MapEntry → Nat → List MapEntry → Prop) : onIterB (.iter es clk done) f = f es clk done := Eq.trans rfl rfl
@[congr] theorem onIterB_congr {b b' : Blk} {f : Array MapEntry → Nat → List MapEntry → Prop} (h : b = b') : onIterB b f = onIterB b' f := by rw [h]
def onIter (st : St) (p : AV) (f : Nat → Array MapEntry → Nat → List MapEntry → Prop) : Prop :=
  match p with
  | .rptr id k 0 0 => k = st.ver id ∧ onIterB (st.h id) (f id)
  | _ => False
theorem onIter_v {st : St} (i k : Nat) (f : Nat → Array MapEntry → Nat → List MapEntry → Prop) (hk : k = st.ver i) : onIter st (.rptr i k 0 0) f = onIterB (st.h i) (f i) := by
  simp only [onIter, hk, true_and]
@[congr] theorem onIter_congr {st st' : St} {p p' : AV} {f : Nat → Array MapEntry → Nat → List MapEntry → Prop} (h : st = st') (hp : p = p') : onIter st p f = onIter st' p' f := by rw [h, hp]
/-- What follows a step of a range over a map: nothing is left, or some entry comes. -/
def NextK (K : St → Prop) (dst : Option Tmp) (id : Nat) (es : Array MapEntry) (clk : Nat) (done : List MapEntry) (st : St) : Prop :=
  ((∀ e ∈ es.toList, e.born ∈ done.map (·.born)) → K (st.put dst (.tup [.v (.bool false)]))) ∧
  ∀ e ∈ es.toList, e.born ∉ done.map (·.born) → K ((st.setH id (.iter es clk (done ++ [e]))).put dst (.tup [.v (.bool true), .v e.key, .v e.val]))
@[congr] theorem NextK_congr {K : St → Prop} {dst : Option Tmp} {id : Nat} {es : Array MapEntry} {clk : Nat} {done : List MapEntry} {st st' : St} (h : st = st') : NextK K dst id es clk done st = NextK K dst id es clk done st' := by rw [h]

theorem NextK.mk {K : St → Prop} {dst : Option Tmp} {id : Nat} {es : Array MapEntry} {clk : Nat} {done : List MapEntry} {st : St} (h0 : (∀ e ∈ es.toList, e.born ∈ done.map (·.born)) → K (st.put dst (.tup [.v (.bool false)])))
    (h1 : ∀ e ∈ es.toList, e.born ∉ done.map (·.born) → K ((st.setH id (.iter es clk (done ++ [e]))).put dst (.tup [.v (.bool true), .v e.key, .v e.val]))) : NextK K dst id es clk done st := ⟨h0, h1⟩
def natOf : AV → Option Nat
  | .v (.int _ i) => if 0 ≤ i then some i.toNat else none
  | _ => none

theorem natOf_eq {p : AV} {n : Nat} (h : natOf p = some n) : ∃ k, p = .v (.int k (n : Int)) := by
  unfold natOf at h
  split at h
  · rename_i k i
    split at h
    · rename_i h0; simp only [Option.some.injEq] at h; exact ⟨k, by rw [← h]; congr 2; omega⟩
    · cases h
  · cases h

/-- A new array of the walk's own, with room and no element. -/
theorem Rel.makeOwn {G : Ctx} {st : St} {E : Env} {a : Act} (hr : Rel G st E a) {t e : TypeId} {sz bytes C : Nat} (he : tElem G.P t = some e) (hs : tSize G.P e = some sz) (hb : tBytes G.P e = some bytes) (hz : (tZero G.P e).isSome = true) (hC : bytes * C ≤ 281474976710656) (h63 : C ≤ maxLen) (id : Nat) (kl kc : IntKind) :
    ∃ E', (Instr.makeSlice t (.int kl 0) (.int kc (C : Int))).run G.P E.w = .ok (.slice (some ⟨E.w.heap.size, 0, none⟩) 0 C) E'.w ∧ Rel G (st.setArr id e sz []) E' a ∧ VR E' (.ref id (st.ver id + 1)) (.slice (some ⟨E.w.heap.size, 0, none⟩) 0 C) := by
  obtain ⟨i, hi, hisz⟩ := Option.map_eq_some_iff.1 hs
  have hiby : i.bytes = bytes := by have := hb; unfold tBytes at this; simpa [hi] using this
  obtain ⟨z, hz0⟩ := Option.isSome_iff_exists.1 hz
  have hiz : i.zero = some z := by unfold tZero at hz0; simpa [hi] using hz0
  obtain ⟨w', h1, h2, h3⟩ := run_make_own (P := G.P) E.w G.w0.heap.size t e i z sz (tElem_eq he) hi hiz hisz kl kc C (by rw [hiby]; exact hC) h63 hr.below.size
  let o : Own := ⟨.slice (some ⟨E.w.heap.size, 0, none⟩) 0 C, E.w.heap.size, sz⟩
  have hve : E.ver id = st.ver id := by rw [hr.ver]
  have hkeep : ∀ b, b < E.w.heap.size → w'.heap[b]? = E.w.heap[b]? := fun b hb => h3.block b hb (by simp)
  refine ⟨{ ver := upd E.ver id (st.ver id + 1), own := upd E.own id o, S := E.S, w := w' }, h1, ?_, .ref _ _ _ (by simp [upd]) fun _ => by simp [upd, o]⟩
  refine hr.own id (.arr e sz []) o (st.ver id + 1) rfl (by omega) rfl (fun h => by omega) rfl (hr.below.grown h3 hr.below.size (fun k h => by cases h)) h3.size (fun b hb _ => hkeep b hb) ?_ ?_
  · exact ⟨rfl, [], h2.w, by simp, ⟨rfl, by simp⟩, fun b hb => by simp only [o, Value.ownBlock, Option.some.injEq] at hb; subst hb; exact ⟨rfl, fun h => absurd (hr.Slt _ h) (by simp)⟩⟩
  · intro b hb; simp only [Blk.at, o, Value.ownBlock, Option.some.injEq] at hb; subst hb; exact .inr (Nat.le_refl _)

/-- A new array of the walk's own, of zeros. -/
theorem Rel.makeFull {G : Ctx} {st : St} {E : Env} {a : Act} (hr : Rel G st E a) {t e : TypeId} {bytes C : Nat} {z : Value} (he : tElem G.P t = some e) (hs : tSize G.P e = some 1) (hb : tBytes G.P e = some bytes) (hz : tZero G.P e = some z) (hone : z.oneCell' = true) (hC : bytes * C ≤ 281474976710656) (h63 : C ≤ maxLen) (id : Nat) (kl kc : IntKind) :
    ∃ E', (Instr.makeSlice t (.int kl (C : Int)) (.int kc (C : Int))).run G.P E.w = .ok (.slice (some ⟨E.w.heap.size, 0, none⟩) C C) E'.w ∧ Rel G (st.setArr id e 1 (List.replicate C (.v z))) E' a ∧ VR E' (.ref id (st.ver id + 1)) (.slice (some ⟨E.w.heap.size, 0, none⟩) C C) := by
  obtain ⟨i, hi, hisz⟩ := Option.map_eq_some_iff.1 hs
  have hiby : i.bytes = bytes := by have := hb; unfold tBytes at this; simpa [hi] using this
  have hiz : i.zero = some z := by have := hz; unfold tZero at this; simpa [hi] using this
  have hzc : z.cells = #[z] := oneCell_cells hone
  have hxs : (List.replicate C (AV.v z)).flatMap AV.cells = List.replicate C (AV.v z) := by
    induction C with
    | zero => rfl
    | succ n ih => rw [List.replicate_succ, List.flatMap_cons, ih (by rw [Nat.mul_succ] at hC; omega) (by omega)]; rfl
  have hus : (madeCells z.cells C).toList = List.replicate C z := by
    unfold madeCells
    rw [hzc]
    apply List.ext_getElem
    · simp
    · intro k h1 h2
      simp [Nat.mod_one]
  have hlen : ∀ x ∈ List.replicate C (AV.v z), x.cells.length = 1 := fun x hx => by rw [List.eq_of_mem_replicate hx]; rfl
  have hvs : VRs E ((List.replicate C (AV.v z)).flatMap AV.cells) (madeCells z.cells C).toList := by
    rw [hxs, hus]
    refine ⟨by simp, fun k x u hx hu => ?_⟩
    rw [List.getElem?_replicate] at hx hu
    split at hx
    · rename_i hk; rw [if_pos hk] at hu; cases hx; cases hu; exact .v _
    · cases hx
  obtain ⟨E', hw, hrel, hv⟩ := hr.arrOwn (e := e) hvs hlen (by simpa using h63) id
  have h63' : (C : Int) ≤ 9223372036854775807 := by unfold maxLen at h63; omega
  have hb' : (i.bytes : Int) * (C : Int) ≤ 281474976710656 := by
    have h : ((i.bytes * C : Nat) : Int) ≤ 281474976710656 := by rw [hiby]; omega
    rwa [Int.natCast_mul] at h
  have hrun := run_make (P := G.P) E.w t e i z (tElem_eq he) hi hiz kl kc C C (by omega) (Int.le_refl _) hb' h63'
  simp only [Int.toNat_natCast, hisz, Nat.mul_one] at hrun
  refine ⟨E', by rw [hrun, hw], hrel, ?_⟩
  simpa using hv

/-- An own map: which one, and what it holds. -/
def onMap (st : St) (p : AV) (f : Nat → Array MapEntry → Nat → Prop) : Prop :=
  match p with
  | .ref id k => k = st.ver id ∧ (match st.h id with
    | .map es clk => f id es clk
    | _ => False)
  | _ => False
@[congr] theorem onMap_congr {st st' : St} {p p' : AV} {f : Nat → Array MapEntry → Nat → Prop} (h : st = st') (hp : p = p') : onMap st p f = onMap st' p' f := by rw [h, hp]
/-- A key that is a text or two texts, or another one. -/
def onKeyQ (p : AV) (f : KeyQ → Prop) (no : Prop) : Prop :=
  match keyQ p with
  | some k => f k
  | none => no
@[congr] theorem onKeyQ_congr {p p' : AV} {f : KeyQ → Prop} {no : Prop} (hp : p = p') : onKeyQ p f no = onKeyQ p' f no := by rw [hp]
def onVal (p : AV) (f : Value → Prop) : Prop :=
  match p with
  | .v x => f x
  | _ => False
@[congr] theorem onVal_congr {p p' : AV} {f : Value → Prop} (hp : p = p') : onVal p f = onVal p' f := by rw [hp]
/-- A part of an own array that is to be cleared. -/
def onOslC (st : St) (p : AV) (f : Nat → Nat → Nat → List AV → Nat → Nat → Prop) (no : Prop) : Prop :=
  match p with
  | .osl id k lo hi _ => k = st.ver id ∧ (match st.h id with
    | .arr e sz xs => (lo ≤ hi ∧ hi ≤ xs.length) ∧ f id e sz xs lo hi
    | _ => False)
  | _ => no
@[congr] theorem onOslC_congr {st st' : St} {p p' : AV} {f : Nat → Nat → Nat → List AV → Nat → Nat → Prop} {no : Prop} (h : st = st') (hp : p = p') : onOslC st p f no = onOslC st' p' f no := by rw [h, hp]
/-- A number as a key, and a value to be stored. -/
def onKey (p q : AV) (f : Int → Value → Prop) : Prop :=
  match p, q with
  | .v (.int .i64 n), .v x => f n x
  | _, _ => False
@[congr] theorem onKey_congr {p p' q q' : AV} {f : Int → Value → Prop} (h : p = p') (hq : q = q') : onKey p q f = onKey p' q' f := by rw [h, hq]
/-- A hint for a new map. -/
def hintOK (st : St) : Option Operand → Prop
  | none => True
  | some x => ∃ k n, st.ev x = .v (.int k n)
/-- A pointer into an own block: which one? -/
def onRptr {α : Sort _} (p : AV) (a : Nat → α) (b : α) : α :=
  match p with
  | .rptr id _ _ _ => a id
  | _ => b
@[congr] theorem onRptr_congr {p p' : AV} {a : Nat → Prop} {b : Prop} (h : p = p') : onRptr p a b = onRptr p' a b := by rw [h]
theorem onIter_eq {st : St} {p : AV} {f : Nat → Array MapEntry → Nat → List MapEntry → Prop} (h : onIter st p f) : ∃ id es clk done, p = .rptr id (st.ver id) 0 0 ∧ st.h id = .iter es clk done ∧ f id es clk done := by
  unfold onIter at h
  split at h
  · rename_i id k
    obtain ⟨rfl, h⟩ := h
    unfold onIterB at h
    split at h
    · rename_i es clk done hh
      exact ⟨id, es, clk, done, rfl, hh, h⟩
    · cases h
  · cases h
theorem Rel.iterOwn {G : Ctx} {st : St} {E : Env} {a : Act} (hr : Rel G st E a) {b clk : Nat} {es : Array MapEntry} (hS : E.S b) (hb : E.w.heap[b]? = some (.map es clk)) (hok : mapOK es clk) (id : Nat) :
    ∃ E', E'.w = E.w.alloc (.mapIter (some b) clk #[] clk) ∧ Rel G (st.setIter id es clk []) E' a ∧ VR E' (.rptr id (st.ver id + 1) 0 0) (.pointer (some ⟨E.w.heap.size, 0, none⟩)) := by
  have hve : E.ver id = st.ver id := by rw [hr.ver]
  let o : Own := ⟨.pointer none, E.w.heap.size, 0⟩
  refine ⟨{ ver := upd E.ver id (st.ver id + 1), own := upd E.own id o, S := E.S, w := E.w.alloc (.mapIter (some b) clk #[] clk) }, rfl, ?_, .rptr _ _ _ _ _ (by simp [upd]) fun _ => by simp [upd, o]⟩
  refine hr.own id (.iter es clk []) o (st.ver id + 1) rfl (by omega) rfl (fun h => by omega) rfl (hr.below.alloc hr.below.size _) (by simp) (fun b hb _ => heap_alloc_lt _ _ b hb) ?_ ?_
  · exact ⟨b, hS, by rw [heap_alloc_lt _ _ b (hr.Slt b hS)]; exact hb, heap_alloc_new _ _, hr.below.size, fun h => absurd (hr.Slt _ h) (by simp [o]), hok, (fun _ h => by cases h), rfl⟩
  · intro b hb; simp only [Blk.at, o, Option.some.injEq] at hb; subst hb; exact .inr (Nat.le_refl _)
theorem Rel.iterNext {G : Ctx} {st : St} {E : Env} {a : Act} (hr : Rel G st E a) {id clk : Nat} {es : Array MapEntry} {done : List MapEntry} (hh : st.h id = .iter es clk done) (ty : TypeId) :
    ((∀ e ∈ es.toList, e.born ∈ done.map (·.born)) ∧ (Instr.next (.pointer (some ⟨(E.own id).blk, 0, none⟩)) false ty).run G.P E.w = .ok (.tuple #[.bool false]) E.w) ∨
    ∃ e ∈ es.toList, e.born ∉ done.map (·.born) ∧ ∃ w', (Instr.next (.pointer (some ⟨(E.own id).blk, 0, none⟩)) false ty).run G.P E.w = .ok (.tuple #[.bool true, e.key, e.val]) w' ∧ Rel G (st.setH id (.iter es clk (done ++ [e]))) { E with w := w' } a := by
  have hb := hr.blocks id
  rw [hh] at hb
  obtain ⟨b, hS, hm, hit, hbase, hnS, hok, hin, hsz⟩ := hb
  rcases run_next_at (P := G.P) E.w ty (E.own id).blk b clk clk _ es clk hit hm hok.1 (Nat.le_refl _) with ⟨h0, h1⟩ | ⟨e, he, w1, hw1, h1⟩
  · refine .inl ⟨fun e he => ?_, h1⟩
    have := all_seen es _ h0 e he
    simpa using this
  · obtain ⟨he1, he2⟩ := mem_left he
    refine .inr ⟨e, he1, by simpa using he2, _, h1, ?_⟩
    have hne : (E.own id).blk ≠ b := fun h => hnS (h ▸ hS)
    have hlt := (Array.getElem?_eq_some_iff.1 hit).1
    have hheap : w1.heap = E.w.heap := by rcases hw1 with rfl | rfl <;> rfl
    have hbl : Below G.w0.heap.size G.w0 w1 := by
      rcases hw1 with rfl | rfl
      · exact hr.below
      · exact ⟨hr.below.os, hr.below.tape, hr.below.output, hr.below.size, hr.below.block⟩
    have hset : ∀ o, ChangeMaps.setBlock w1 (E.own id).blk o = w1.putObj (E.own id).blk o := fun _ => rfl
    rw [hset]
    have hr' := hr.own (E' := { E with w := w1.putObj (E.own id).blk (.mapIter (some b) clk (((done.map (·.born)).toArray).push e.born) clk) }) id (.iter es clk (done ++ [e])) (E.own id) (E.ver id) (by funext j; by_cases h : j = id <;> simp [upd, h]) (Nat.le_refl _) (by funext j; by_cases h : j = id <;> simp [upd, h]) (fun _ => rfl) rfl
      (below_putObj hbl hbase _) (by rw [World.putObj_size, hheap]; exact Nat.le_refl _) (fun c hc hne' => by rw [World.putObj_heap_other (fun he => hne' (by rw [hh, he]; rfl)), hheap])
      ⟨b, hS, by rw [World.putObj_heap_other (Ne.symm hne), hheap]; exact hm, by rw [World.putObj_heap_same (by rw [hheap]; exact hlt)]; simp, hbase, hnS, hok, (fun x hx => by
        rcases List.mem_append.1 hx with hx | hx
        · exact hin x hx
        · simp only [List.mem_singleton] at hx; subst hx; exact he1), hsz⟩ (fun c hc => .inl (by rw [hh]; exact hc))
    have he' : upd st.ver id (E.ver id) = st.ver := by funext j; by_cases h : j = id <;> simp [upd, h, hr.ver]
    rw [he'] at hr'
    exact hr'

/-- The walk of one operation that is no call of a function. -/
def vcOp (G : Ctx) (own : List Nat) (K : St → Prop) (o : Oper) (st : St) : Prop :=
  match o.op with
  | .alloc t => match o.dst with
    | some d => bindP (tZero G.P t) fun z => (valCells z).all (okCell st) = true ∧ K ((st.setBox (G.ids d) (valCells z)).put (some d) (.rptr (G.ids d) (st.ver (G.ids d) + 1) 0 0))
    | none => False
  | .box _ x => match o.dst with
    | some d => okCells st (st.ev x) = true ∧ if d ∈ own then K ((st.setBox (G.ids d) (st.ev x).cells).put (some d) (.rptr (G.ids d) (st.ver (G.ids d) + 1) 0 0)) else K (st.put (some d) (.eptr (st.ev x).cells 0))
    | none => False
  | .build t parts => bindP (buildAV G.P st t parts) fun r => K (st.put o.dst r)
  | .buildSlice t len parts => match o.dst with
    | some d => bindP (litAV G.P st t len parts) fun x => if d ∈ own then K ((st.setArr (G.ids d) x.1 x.2.1 x.2.2).put (some d) (.ref (G.ids d) (st.ver (G.ids d) + 1))) else K (st.put (some d) (.lst x.2.1 x.2.2))
    | none => False
  | .binOp op t x y k => onNil (nilSrc st (st.ev x))
      (fun xs => st.ev y = .v (.slice none 0 0) ∧ (tElem G.P t).isSome = true ∧ ((op = .eql ∧ ∀ b : Bool, (b = true → xs = []) → K (st.put o.dst (.v (.bool b)))) ∨ (op = .neq ∧ ∀ b : Bool, (b = false → xs = []) → K (st.put o.dst (.v (.bool b))))))
      (bindP (evalV G.P st (.binOp op t x y k)) fun r => K (st.put o.dst r))
  | .store t p x => bindP (storeSt G.P st t (st.ev p) (st.ev x)) fun st' => K (st'.put o.dst .junk)
  | .call c => match c.callee with
    | .builtin .append => match c.args.toList, c.argTypes.toList, o.dst with
      | [p, q], [t, t'], some d => t' = t ∧ bindP (tElem G.P t) fun e => bindP (tSize G.P e) fun sz => bindP (tBytes G.P e) fun bytes => ((tZero G.P e).map (·.cells.size) = some sz ∧ 0 < sz) ∧
          onFull (fullOf (st.ev p)) (fun sz' xs => sz' = sz ∧ bindP (srcAV st sz (st.ev q)) fun ys => ((∀ c ∈ ys, okCells st c = true) ∧ (xs.length + ys.length) * bytes ≤ 140737488355328 ∧ xs.length + ys.length ≤ 140737488355328) ∧
            (ys = [] → K (st.put (some d) (.lst sz xs))) ∧ (ys ≠ [] → K ((st.setArr (G.ids d) e sz (xs ++ ys)).put (some d) (.ref (G.ids d) (st.ver (G.ids d) + 1)))))
          (onOsl (oslOf st (st.ev p)) (fun id e' sz' xs lo hi => (e' = e ∧ sz' = sz) ∧ bindP (srcAV st sz (st.ev q)) fun ys => ((∀ c ∈ ys, okCells st c = true) ∧ (hi - lo + ys.length) * bytes ≤ 140737488355328 ∧ hi - lo + ys.length ≤ 140737488355328) ∧
            (ys = [] → lo = 0 ∧ K ((st.setArr id e sz (xs.take hi)).put (some d) (.ref id (st.ver id + 1)))) ∧ (ys ≠ [] → K ((st.setArr (G.ids d) e sz ((xs.drop lo).take (hi - lo) ++ ys)).put (some d) (.ref (G.ids d) (st.ver (G.ids d) + 1)))))
          (bindP (destAV st (G.ids d) e sz (st.ev p)) fun dx => bindP (srcAV st sz (st.ev q)) fun ys => ((∀ c ∈ ys, okCells st c = true) ∧ (dx.2.length + ys.length) * bytes ≤ 140737488355328 ∧ dx.2.length + ys.length ≤ 140737488355328) ∧
          K ((st.setArr dx.1 e sz (dx.2 ++ ys)).put (some d) (.ref dx.1 (st.ver dx.1 + 1)))))
      | _, _, _ => False
    | .builtin .clear => match c.args.toList, c.argTypes.toList with
      | [x], [t] => onOslC st (st.ev x) (fun id e sz xs lo hi => tElem G.P t = some e ∧ bindP (tZero G.P e) fun z => (z.cells.toList.all (·.oneCell') = true ∧ z.cells.size = sz ∧ 0 < sz) ∧
          K ((st.setH id (.arr e sz (xs.take lo ++ List.replicate (hi - lo) (.agg (valCells z)) ++ xs.drop hi))).put o.dst (.tup [])))
        ((tMap G.P t).isSome = true ∧ onMap st (st.ev x) fun id _ clk => K ((st.setH id (.map #[] clk)).put o.dst (.tup [])))
      | _, _ => False
    | .builtin _ => bindP (evalV G.P st o.op) fun r => K (st.put o.dst r)
    | .value f => onFn2 (st.ev f) (fun g first captured => CallSem G g (first ++ (c.args.toList.map st.ev ++ captured)) o.dst K st) (fun l => YieldSem G l (c.args.toList.map st.ev) o.dst K st)
    | .invoke .. => False
  | .makeSlice t l c => match o.dst with
    | some d => bindP (tElem G.P t) fun e => bindP (tSize G.P e) fun sz => bindP (tBytes G.P e) fun bytes => bindP (tZero G.P e) fun z => bindP (natOf (st.ev c)) fun C => bindP (natOf (st.ev l)) fun L => ((L = 0 ∨ (L = C ∧ sz = 1 ∧ z.oneCell' = true)) ∧ bytes * C ≤ 281474976710656 ∧ C ≤ 281474976710656) ∧ K ((st.setArr (G.ids d) e sz (List.replicate L (.v z))).put (some d) (.ref (G.ids d) (st.ver (G.ids d) + 1)))
    | none => False
  | .makeMap t r => match o.dst with
    | some d => (tMap G.P t).isSome = true ∧ hintOK st r ∧ K ((st.setMap (G.ids d) #[] 0).put (some d) (.ref (G.ids d) (st.ver (G.ids d) + 1)))
    | none => False
  | .mapUpdate t m k x => bindP (tMap G.P t) fun y => onKeyQ (st.ev k) (fun q => q.okT G.P y.1 = true ∧ onMap st (st.ev m) fun id es clk => qM es q = true ∧ onVal (st.ev x) fun v => K ((st.setH id (.map (qput es clk q v).1 (qput es clk q v).2)).put o.dst .junk)) (tInt G.P y.1 = some .i64 ∧ onMap st (st.ev m) fun id es clk => intM es = true ∧ onKey (st.ev k) (st.ev x) fun n v => K ((st.setH id (.map (mput es clk n v).1 (mput es clk n v).2)).put o.dst .junk))
  | .slice t x lo hi mx => onRptr (st.ev x) (fun id => bindP (evalV G.P (st.freeze id) (.slice t x lo hi mx)) fun r => K ((st.freeze id).put o.dst r)) (bindP (evalV G.P st (.slice t x lo hi mx)) fun r => K (st.put o.dst r))
  | .range t x => match o.dst with
    | some d => (tMap G.P t).isSome = true ∧ onMapF st (st.ev x) fun es clk st => mapOK es clk ∧ K ((st.setIter (G.ids d) es clk []).put (some d) (.rptr (G.ids d) (st.ver (G.ids d) + 1) 0 0))
    | none => False
  | .next x b => b = false ∧ onIter st (st.ev x) fun id es clk done => NextK K o.dst id es clk done st
  | .entry x => onIter st (st.ev x) fun _ _ _ done => bindP done.getLast? fun e => K (st.put o.dst (.tup [.v e.key, .v e.val]))
  | op => bindP (evalV G.P st op) fun r => K (st.put o.dst r)

/-- Behind a call: the operations that are still to come. A name, so that nothing looks into it ahead of time. -/
def CallVC (G : Ctx) (g : FuncId) (args : List AV) (dst : Option Tmp) (K : St → Prop) (st : St) : Prop := CallSem G g args dst K st

def dstOK (n : Nat) : Option Tmp → Prop
  | some d => d < n
  | none => True

/-- Is what a guard hangs on what it wants? (An operation that was passed over yields nothing.) -/
def guardV (p : AV) (want : Bool) : Option Bool :=
  match p with
  | .v (.bool b) => some (b == want)
  | .v (.tuple _) => some false
  | _ => none
def guardSlot (ops : Array Oper) (j : Nat) : Option Tmp := (ops[j]?).bind (·.dst)

def vcOps (G : Ctx) (own : List Nat) (ops : Array Oper) (Q : St → Prop) : List Oper → St → Prop
  | [], st => Q st
  | o :: rest, st => dstOK G.n o.dst ∧ match o.guard with
    | none => vcOp G own (vcOps G own ops Q rest) o st
    | some (j, want) => match guardSlot ops j with
      | some t => bindP (guardV (st.σ t) want) fun b => if b = true then vcOp G own (vcOps G own ops Q rest) o st else vcOps G own ops Q rest (st.put o.dst (.v undef))
      | none => False

section
variable {G : Ctx} {st : St} {E : Env} {a : Act}

theorem Rel.σ_put_h {st' : St} (hr : Rel G st' E a) : Rel G st' E a := hr

theorem run_box {P : Program} (t : TypeId) (x : Value) (w : World) : (Instr.box t x).run P w = .ok (.pointer (some ⟨w.heap.size, 0, none⟩)) (w.alloc (.cells x.cells t (0, 0))) := by
  simp [Instr.box, newVar, newRow]

theorem run_zeroValue {P : Program} {t : TypeId} {z : Value} (h : tZero P t = some z) (w : World) : (zeroValue t).run P w = .ok z w := by
  unfold tZero at h
  cases hi : P.info? t with
  | none => simp [hi] at h
  | some i => have : i.zero = some z := by simpa [hi] using h
              simp [zeroValue, typeInfo, hi, this]

theorem vcOp_sound0 (own : List Nat) {o : Oper} {K : St → Prop} (hny : ∀ c f l, o.op = .call c → c.callee = .value f → st.ev f ≠ .v (.func (.yield l) #[] #[])) (hd : dstOK G.n o.dst) (hr : Rel G st E a) (h : vcOp G own K o st) {Q : Exit → Act → World → Prop} :
    o.wp G.P a E.w (fun a' w' => ∃ st' E', E'.w = w' ∧ Rel G st' E' a' ∧ K st') Q := by
  have hdst : ∀ d, o.dst = some d → d < G.n := fun d he => by rw [he] at hd; exact hd
  have value : ∀ {r : AV}, evalV G.P st o.op = some r → K (st.put o.dst r) → o.wp G.P a E.w (fun a' w' => ∃ st' E', E'.w = w' ∧ Rel G st' E' a' ∧ K st') Q := by
    intro r hr1 hk
    obtain ⟨z, h1, h2⟩ := evalV_sound hr hr1
    unfold Oper.wp
    rw [h1, Oper.upon_value]
    exact ⟨_, E, rfl, hr.put h2 hdst, hk⟩
  unfold vcOp at h
  split at h
  · rename_i t ho
    split at h
    case h_2 => cases h
    rename_i d hdd
    obtain ⟨z, hz, hzc, hk⟩ := h
    obtain ⟨E', hw, hrel, hv⟩ := hr.boxOwn (valCells_vrs E z) t (G.ids d)
    unfold Oper.wp
    have hrun : (execOp a.eval o).run G.P E.w = .ok (.value (.pointer (some ⟨E.w.heap.size, 0, none⟩))) (E.w.alloc (.cells z.cells t (0, 0))) := by
      simp [execOp, ho, Instr.alloc, run_zeroValue hz, newVar, newRow]
    rw [hrun, Oper.upon_value]
    refine ⟨_, E', hw, ?_, hk⟩
    rw [hdd]
    exact hrel.put hv (fun d' he => by cases he; exact hdst _ hdd)
  · rename_i t x ho
    split at h
    case h_2 => cases h
    rename_i d hdd
    obtain ⟨hok, hk⟩ := h
    have hrun : (execOp a.eval o).run G.P E.w = .ok (.value (.pointer (some ⟨E.w.heap.size, 0, none⟩))) (E.w.alloc (.cells (a.eval x).cells t (0, 0))) := by
      simp [execOp, ho, run_box]
    unfold Oper.wp
    rw [hrun, Oper.upon_value, hdd]
    split at hk
    · obtain ⟨hv, _⟩ := okCells_spec hr (hr.ev x) hok
      obtain ⟨E', hw, hrel, hv'⟩ := hr.boxOwn hv t (G.ids d)
      exact ⟨_, E', hw, hrel.put hv' (fun d' he => by cases he; exact hdst _ hdd), hk⟩
    · obtain ⟨hrel, hv⟩ := hr.boxFrozen (hr.ev x) hok t
      exact ⟨_, _, rfl, hrel.put hv (fun d' he => by cases he; exact hdst _ hdd), hk⟩
  · rename_i t parts ho
    obtain ⟨r, hb, hk⟩ := h
    obtain ⟨z, h1, h2⟩ := buildAV_sound hr hb
    have hrun : (execOp a.eval o).run G.P E.w = .ok (.value z) E.w := by
      simp only [execOp, ho, Sem.run_bind, h1]; rfl
    unfold Oper.wp
    rw [hrun, Oper.upon_value]
    exact ⟨_, E, rfl, hr.put h2 hdst, hk⟩
  · rename_i t len parts ho
    split at h
    case h_2 => cases h
    rename_i d hdd
    obtain ⟨⟨e, sz, xs⟩, hl, hk⟩ := h
    simp only at hk
    obtain ⟨us, hrun0, hxl, hcl, hvs, hone, hokx, hus⟩ := run_lit hr hl
    have hrun : (execOp a.eval o).run G.P E.w = .ok (.value (.slice (some ⟨E.w.heap.size, 0, none⟩) len len)) (E.w.alloc (.cells us e (0, 0))) := by
      simp only [execOp, ho, Sem.run_bind, hrun0]; rfl
    have hlen : xs.length ≤ maxLen := by
      unfold litAV at hl
      split at hl
      · cases hl
      split at hl
      · cases hl
      rename_i sz' hsz'
      split at hl
      case isFalse => cases hl
      rename_i hc
      rw [hxl]
      unfold maxLen
      have h3 := hc.2.2.1.2
      omega
    unfold Oper.wp
    rw [hrun, Oper.upon_value, hdd]
    split at hk
    · obtain ⟨E', hw, hrel, hv'⟩ := hr.arrOwn (e := e) hvs hcl hlen (G.ids d)
      rw [hxl] at hv'
      exact ⟨_, E', hw, hrel.put hv' (fun d' he => by cases he; exact hdst _ hdd), hk⟩
    · refine ⟨_, _, rfl, (hr.frozen (.cells us e (0, 0))).put (r := .lst sz xs) ?_ (fun d' he => by cases he; exact hdst _ hdd), hk⟩
      have hle := E.le_frozen hr.Slt (.cells us e (0, 0))
      have hul : us.size = xs.length * sz := by rw [hus, hxl]
      have := VR.lst (E := E.frozen (.cells us e (0, 0))) sz xs E.w.heap.size 0 len (fun k => us.getD k undef) (.inr rfl) (by omega) (by rw [← hxl]; exact hlen) (fun k hk => frozen_get E us e k (by omega))
        (fun i x hi => hcl x (List.mem_of_getElem? hi)) (fun i x j c hi hj => by
          have hjl : j < sz := by rw [← hcl x (List.mem_of_getElem? hi)]; exact (List.getElem?_eq_some_iff.1 hj).1
          have hg := flat_get xs i x j hcl hi hjl
          rw [hj] at hg
          have hi' : i < xs.length := (List.getElem?_eq_some_iff.1 hi).1
          have hmul : i * sz + sz ≤ xs.length * sz := by rw [← Nat.succ_mul]; exact Nat.mul_le_mul_right _ hi'
          refine (hvs.2 _ c _ hg ?_).mono hle
          simp [Array.getD_eq_getD_getElem?, show i * sz + j < us.size from by omega])
      rw [hxl] at this
      exact this
  · rename_i op t x y k ho
    rcases h with ⟨xs, hxs, h⟩ | ⟨_, h⟩
    · obtain ⟨hy, hte, hk⟩ := h
      obtain ⟨e, he⟩ := Option.isSome_iff_exists.mp hte
      have hyv := hr.ev y
      rw [hy] at hyv
      have hyv := hyv.v_inv
      obtain ⟨ad, n, cp, hx, hnil⟩ : ∃ ad n cp, a.eval x = .slice ad n cp ∧ (ad.isNone = true → xs = []) := by
        have hxv := hr.ev x
        generalize hp : st.ev x = p at hxs hxv
        generalize a.eval x = z at hxv
        unfold nilSrc at hxs
        split at hxs
        · cases hxs
          cases hxv with
          | lst _ _ b off cap u _ _ _ => exact ⟨_, _, _, rfl, by simp⟩
          | lstNil => exact ⟨_, _, _, rfl, by simp⟩
          | lstNo => exact ⟨_, _, _, rfl, by simp⟩
        · split at hxs
          case isFalse => cases hxs
          rename_i hk
          split at hxs
          · rename_i hh
            cases hxs
            cases hxv with
            | ref _ _ _ h1 h2 =>
              rw [h2 (by rw [hr.ver]; exact hk)]
              have hb := hr.blocks
              rename_i id _ _ _ _
              have hb := hb id
              rw [hh] at hb
              obtain ⟨_, us, hown, _⟩ := hb
              rcases hown.2 with ⟨hv, hn⟩ | ⟨g, cap, cur, hv, _⟩
              · exact ⟨_, _, _, hv, fun _ => List.eq_nil_of_length_eq_zero hn⟩
              · exact ⟨_, _, _, hv, by simp⟩
          · cases hxs
        · cases hxs
      have heq : (Op.equal t (.slice ad n cp) (.slice none 0 0)).run G.P E.w = .ok ad.isNone E.w := run_equal_slice_nil E.w t e ad n cp (tElem_eq he)
      rcases hk with ⟨rfl, hk⟩ | ⟨rfl, hk⟩
      · have hrun : (execOp a.eval o).run G.P E.w = .ok (.value (.bool ad.isNone)) E.w := by
          simp [execOp, ho, hx, hyv, eqGuard, binOp, heq]
        unfold Oper.wp
        rw [hrun, Oper.upon_value]
        exact ⟨_, E, rfl, hr.put (.v _) hdst, hk _ hnil⟩
      · have hrun : (execOp a.eval o).run G.P E.w = .ok (.value (.bool !ad.isNone)) E.w := by
          simp [execOp, ho, hx, hyv, eqGuard, binOp, heq]
        unfold Oper.wp
        rw [hrun, Oper.upon_value]
        exact ⟨_, E, rfl, hr.put (.v _) hdst, hk _ fun h => hnil (by simpa using h)⟩
    · obtain ⟨r, hr1, hk⟩ := h
      exact value (by rw [ho]; exact hr1) hk
  · rename_i t p x ho
    obtain ⟨st', hs, hk⟩ := h
    obtain ⟨E', h1, hrel⟩ := storeSt_sound hr (hr.ev p) (hr.ev x) hs
    have hrun : (execOp a.eval o).run G.P E.w = .ok .skip E'.w := by
      simp only [execOp, ho, Sem.run_bind, h1]; rfl
    unfold Oper.wp
    rw [hrun, Oper.upon_skip]
    exact ⟨_, E', rfl, hrel.put (.junk _) hdst, hk⟩
  · rename_i c ho
    split at h
    · rename_i hcal
      split at h
      case h_2 => cases h
      rename_i p q t t' d hargs htypes hdd
      obtain ⟨rfl, e, he, sz, hs, bytes, hb, ⟨hz, hpos⟩, h⟩ := h
      have hargs' : c.args = #[p, q] := by rw [← Array.toList_inj]; simpa using hargs
      have htypes' : c.argTypes = #[t', t'] := by rw [← Array.toList_inj]; simpa using htypes
      rcases h with ⟨sz', xs, hfull, rfl, ys, hsrc, ⟨hok, hn, hn'⟩, hk0, hk1⟩ | ⟨_, ⟨id, e', sz', xs, lo, hi, hosl, ⟨rfl, rfl⟩, ys, hsrc, ⟨hok, hn, hn'⟩, hk0, hk1⟩ | ⟨_, ⟨id, xs⟩, hdest, ys, hsrc, ⟨hok, hn, hn'⟩, hk⟩⟩
      · have hxp := hr.ev p
        rw [fullOf_eq hfull] at hxp
        by_cases hne : ys = []
        · subst hne
          obtain ⟨h1, hv⟩ := appendFull_none (ty := o.type) hr hxp (hr.ev q) he hs hsrc
          have hrun : (execOp a.eval o).run G.P E.w = .ok (.value (a.eval p)) E.w := by
            simp [execOp, ho, resolve, hcal, hargs', htypes', invoke, builtin, h1]
          unfold Oper.wp
          rw [hrun, Oper.upon_value, hdd]
          exact ⟨_, E, rfl, hr.put hv (fun d' he => by cases he; exact hdst _ hdd), hk0 rfl⟩
        · obtain ⟨x', E', h1, hrel, hv⟩ := appendFull_sound (id := G.ids d) (ty := o.type) hr hxp (hr.ev q) he hs hb hz hpos hsrc hok hne hn (by unfold maxLen; omega)
          have hrun : (execOp a.eval o).run G.P E.w = .ok (.value x') E'.w := by
            simp [execOp, ho, resolve, hcal, hargs', htypes', invoke, builtin, h1]
          unfold Oper.wp
          rw [hrun, Oper.upon_value, hdd]
          exact ⟨_, E', rfl, hrel.put hv (fun d' he => by cases he; exact hdst _ hdd), hk1 hne⟩
      · have hxp := hr.ev p
        obtain ⟨hpe, hh, hlh, hhi⟩ := oslOf_eq hosl
        rw [hpe] at hxp
        by_cases hne : ys = []
        · subst hne
          obtain ⟨hlo, hk2⟩ := hk0 rfl
          subst hlo
          obtain ⟨E', h1, hrel, hv⟩ := appendOsl_none (ty := o.type) hr hh hhi hxp (hr.ev q) he hs hsrc
          have hrun : (execOp a.eval o).run G.P E.w = .ok (.value (a.eval p)) E'.w := by
            simp [execOp, ho, resolve, hcal, hargs', htypes', invoke, builtin, h1]
          unfold Oper.wp
          rw [hrun, Oper.upon_value, hdd]
          exact ⟨_, E', rfl, hrel.put hv (fun d' he => by cases he; exact hdst _ hdd), hk2⟩
        · obtain ⟨x', E', h1, hrel, hv⟩ := appendOsl_sound (id := G.ids d) (ty := o.type) hr hh hlh hhi hxp (hr.ev q) he hs hb hz hpos hsrc hok hne hn (by unfold maxLen; omega)
          have hrun : (execOp a.eval o).run G.P E.w = .ok (.value x') E'.w := by
            simp [execOp, ho, resolve, hcal, hargs', htypes', invoke, builtin, h1]
          unfold Oper.wp
          rw [hrun, Oper.upon_value, hdd]
          exact ⟨_, E', rfl, hrel.put hv (fun d' he => by cases he; exact hdst _ hdd), hk1 hne⟩
      simp only at hn hn' hk
      obtain ⟨x', E', h1, hrel, hv⟩ := append_sound (ty := o.type) hr (hr.ev p) (hr.ev q) he hs hb hz hpos hdest hsrc hok hn (by unfold maxLen; omega)
      have hrun : (execOp a.eval o).run G.P E.w = .ok (.value x') E'.w := by
        simp [execOp, ho, resolve, hcal, hargs', htypes', invoke, builtin, h1]
      unfold Oper.wp
      rw [hrun, Oper.upon_value, hdd]
      exact ⟨_, E', rfl, hrel.put hv (fun d' he => by cases he; exact hdst _ hdd), hk⟩
    · rename_i hcal
      split at h
      case h_2 => cases h
      rename_i x t hargs htypes
      unfold onOslC at h
      split at h
      · rename_i id k lo hi f hev
        obtain ⟨hver, h⟩ := h
        split at h
        case h_2 => cases h
        rename_i e sz xs hh
        obtain ⟨⟨hlh, hhx⟩, hte, z, hz, ⟨h1, hzs, hpos⟩, h⟩ := h
        have hargs' : c.args = #[x] := by rw [← Array.toList_inj]; simpa using hargs
        have htypes' : c.argTypes = #[t] := by rw [← Array.toList_inj]; simpa using htypes
        have hmv := hr.ev x
        rw [hev, hver] at hmv
        obtain ⟨E', hrun0, hrel⟩ := clear_sound (ty := o.type) hr hh hmv hlh hhx hte hz h1 hzs hpos
        have hrun : (execOp a.eval o).run G.P E.w = .ok (.value (.tuple #[])) E'.w := by
          simp [execOp, ho, resolve, hcal, hargs', htypes', invoke, builtin, hrun0]
        unfold Oper.wp
        rw [hrun, Oper.upon_value]
        exact ⟨_, E', rfl, Rel.put (st := st.setH id (.arr e sz (xs.take lo ++ List.replicate (hi - lo) (.agg (valCells z)) ++ xs.drop hi))) (r := .tup []) hrel (.tup [] #[] rfl (by simp)) hdst, h⟩
      obtain ⟨hm, h⟩ := h
      obtain ⟨⟨kt, et⟩, hm⟩ := Option.isSome_iff_exists.mp hm
      unfold onMap at h
      split at h
      case h_2 => cases h
      rename_i id v hev
      obtain ⟨hver, h⟩ := h
      split at h
      case h_2 => cases h
      rename_i es clk hh
      have hargs' : c.args = #[x] := by rw [← Array.toList_inj]; simpa using hargs
      have htypes' : c.argTypes = #[t] := by rw [← Array.toList_inj]; simpa using htypes
      have hmv := hr.ev x
      rw [hev] at hmv
      have hb := hr.blocks id
      rw [hh] at hb
      obtain ⟨g1, g2, _⟩ := hb
      have hmm : a.eval x = .map (some (E.own id).blk) := by
        generalize hgm : a.eval x = y at hmv
        cases hmv with
        | ref _ _ _ h1 h2 => rw [h2 (by rw [hr.ver]; exact hver)]; exact g2
      have hrel := hr.mapSet hh #[] clk
      have hrun : (execOp a.eval o).run G.P E.w = .ok (.value (.tuple #[])) (E.w.putObj (E.own id).blk (.map #[] clk)) := by
        simp [execOp, ho, resolve, hcal, hargs', htypes', invoke, builtin, Builtin.clear_, run_underlying (tMap_eq hm), hmm, MapKept.run_getObj_map g1, MapKept.run_setObj_map _ g1, World.putObj]
      unfold Oper.wp
      rw [hrun, Oper.upon_value]
      exact ⟨_, _, rfl, Rel.put (st := st.setH id (.map #[] clk)) (r := .tup []) hrel (.tup [] #[] rfl (by simp)) hdst, h⟩
    · obtain ⟨r, hr1, hk⟩ := h
      exact value hr1 hk
    · rename_i f hcal
      rcases h with h | ⟨l, hl, _⟩
      case inr => exact (hny c f l ho hcal hl).elim
      obtain ⟨g, first, captured, hf, h⟩ := h
      obtain ⟨⟨fn, hfn, hbody, hname⟩, hcall⟩ := h
      have hvf := hr.ev f
      rw [hf] at hvf
      generalize hfe : a.eval f = fv at hvf
      cases hvf with
      | fn _ _ _ us vs h1 h2 h3 h4 =>
        have hrun : (execOp a.eval o).run G.P E.w = .ok (.enter g (us ++ c.args.map a.eval ++ vs)) E.w := by
          have hname' : ¬ fn.name = "runtime.NumGoroutine" := by simpa using hname
          simp [execOp, ho, resolve, hcal, hfe, Deferred.ofValue, invoke, callFunc, hfn, hname']
          cases hb : fn.body with
          | none => simp [hb] at hbody
          | some _ => simp
        unfold Oper.wp
        rw [hrun, Oper.upon_enter]
        refine (hcall E a (us ++ c.args.map a.eval ++ vs) hr (by simp [h1, h2, Nat.add_assoc]) fun i p hp => ?_).mono ?_
        · simp only [List.getElem?_append, List.length_map, Array.length_toList] at hp
          simp only [Array.getD_eq_getD_getElem?, Array.getElem?_append, Array.size_append, Array.size_map]
          by_cases hi1 : i < first.length
          · rw [if_pos hi1] at hp
            rw [if_pos (by omega), if_pos (by omega)]
            have := h3 i p hp
            simpa [Array.getD_eq_getD_getElem?] using this
          · rw [if_neg hi1] at hp
            by_cases hi2 : i - first.length < c.args.size
            · rw [if_pos hi2] at hp
              rw [if_pos (by omega), if_neg (by omega)]
              simp only [List.getElem?_map, Option.map_eq_some_iff, Array.getElem?_toList] at hp
              obtain ⟨x, hx, rfl⟩ := hp
              have : (Array.map a.eval c.args)[i - us.size]? = some (a.eval x) := by rw [← h1]; simp [hx]
              rw [this]; exact hr.ev x
            · rw [if_neg hi2] at hp
              rw [if_neg (by omega)]
              have := h4 _ p hp
              rw [h1] at this
              simpa [Array.getD_eq_getD_getElem?, Nat.sub_sub] using this
        · rintro e w' ⟨v, rfl, st', E', rfl, hrel, hk⟩
          exact ⟨st', E', rfl, hrel, hk⟩
    · cases h
  · rename_i t l c ho
    split at h
    case h_2 => cases h
    rename_i d hdd
    obtain ⟨e, he, sz, hs, bytes, hb, z, hz, C, hc, L, hl, ⟨hL, hC, hC'⟩, hk⟩ := h
    obtain ⟨kl, hl'⟩ := natOf_eq hl
    obtain ⟨kc, hc'⟩ := natOf_eq hc
    have e1 : a.eval l = .int kl (L : Int) := by have := hr.ev l; rw [hl'] at this; exact this.v_inv
    have e2 : a.eval c = .int kc (C : Int) := by have := hr.ev c; rw [hc'] at this; exact this.v_inv
    rcases hL with rfl | ⟨rfl, rfl, hone⟩
    case inr =>
      obtain ⟨E', h1, hrel, hv⟩ := hr.makeFull he hs hb hz hone hC (by unfold maxLen; omega) (G.ids d) kl kc
      have hrun : (execOp a.eval o).run G.P E.w = .ok (.value (.slice (some ⟨E.w.heap.size, 0, none⟩) L L)) E'.w := by
        simp only [execOp, ho, Sem.run_bind, e1, e2, h1]; rfl
      unfold Oper.wp
      rw [hrun, Oper.upon_value, hdd]
      exact ⟨_, E', rfl, hrel.put hv (fun d' he => by cases he; exact hdst _ hdd), hk⟩
    obtain ⟨E', h1, hrel, hv⟩ := hr.makeOwn he hs hb (by rw [hz]; rfl) hC (by unfold maxLen; omega) (G.ids d) kl kc
    have e1 : a.eval l = .int kl 0 := e1
    have hrun : (execOp a.eval o).run G.P E.w = .ok (.value (.slice (some ⟨E.w.heap.size, 0, none⟩) 0 C)) E'.w := by
      simp only [execOp, ho, Sem.run_bind, e1, e2, h1]; rfl
    unfold Oper.wp
    rw [hrun, Oper.upon_value, hdd]
    exact ⟨_, E', rfl, hrel.put hv (fun d' he => by cases he; exact hdst _ hdd), hk⟩
  · rename_i t r ho
    split at h
    case h_2 => cases h
    rename_i d hdd
    obtain ⟨hm, hh, hk⟩ := h
    obtain ⟨⟨kt, et⟩, hm⟩ := Option.isSome_iff_exists.mp hm
    obtain ⟨E', hw, hrel, hv⟩ := hr.mapOwn (G.ids d)
    have hrun : (execOp a.eval o).run G.P E.w = .ok (.value (.map (some E.w.heap.size))) (E.w.alloc (.map #[] 0)) := by
      cases r with
      | none => simp [execOp, ho, Instr.makeMap, newObj]; rfl
      | some x =>
        obtain ⟨k, n, hx⟩ := hh
        have hx' : a.eval x = .int k n := by have := hr.ev x; rw [hx] at this; exact this.v_inv
        simp [execOp, ho, Instr.makeMap, run_underlying (tMap_eq hm), hx', asInt, newObj]; rfl
    unfold Oper.wp
    rw [hrun, Oper.upon_value, hdd]
    exact ⟨_, E', hw, hrel.put hv (fun d' he => by cases he; exact hdst _ hdd), hk⟩
  · rename_i t m k x ho
    obtain ⟨⟨kt, et⟩, hm, h⟩ := h
    unfold onKeyQ at h
    split at h
    · rename_i q hkq
      obtain ⟨hok, h⟩ := h
      unfold onMap at h
      split at h
      case h_2 => cases h
      rename_i id v hev
      obtain ⟨hver, h⟩ := h
      split at h
      case h_2 => cases h
      rename_i es clk hh
      obtain ⟨hq, h⟩ := h
      unfold onVal at h
      split at h
      case h_2 => cases h
      rename_i z hez
      have hmv := hr.ev m
      rw [hev] at hmv
      have hkv : a.eval k = q.val := keyQ_val (hr.ev k) hkq
      have hxv : a.eval x = z := by have := hr.ev x; rw [hez] at this; exact this.v_inv
      have hb := hr.blocks id
      rw [hh] at hb
      obtain ⟨g1, g2, _⟩ := hb
      have hmm : a.eval m = .map (some (E.own id).blk) := by
        generalize hgm : a.eval m = y at hmv
        cases hmv with
        | ref _ _ _ h1 h2 => rw [h2 (by rw [hr.ver]; exact hver)]; exact g2
      have hrel := hr.mapSet hh (qput es clk q z).1 (qput es clk q z).2
      have hrun : (execOp a.eval o).run G.P E.w = .ok .skip (E.w.putObj (E.own id).blk (.map (qput es clk q z).1 (qput es clk q z).2)) := by
        simp only [execOp, ho, Sem.run_bind, hmm, hkv, hxv, run_mapUpdate_Q (tMap_eq hm) hok g1 hq z]; rfl
      unfold Oper.wp
      rw [hrun, Oper.upon_skip]
      exact ⟨_, _, rfl, Rel.put (st := st.setH id (.map (qput es clk q z).1 (qput es clk q z).2)) hrel (.junk _) hdst, h⟩
    obtain ⟨hki, h⟩ := h
    unfold onMap at h
    split at h
    case h_2 => cases h
    rename_i id v hev
    obtain ⟨hver, h⟩ := h
    split at h
    case h_2 => cases h
    rename_i es clk hh
    obtain ⟨hint, h⟩ := h
    unfold onKey at h
    split at h
    case h_2 => cases h
    rename_i n z hek hez
    have hmv := hr.ev m
    rw [hev] at hmv
    have hkv : a.eval k = .int .i64 n := by have := hr.ev k; rw [hek] at this; exact this.v_inv
    have hxv : a.eval x = z := by have := hr.ev x; rw [hez] at this; exact this.v_inv
    have hb := hr.blocks id
    rw [hh] at hb
    obtain ⟨g1, g2, _⟩ := hb
    have hmm : a.eval m = .map (some (E.own id).blk) := by
      generalize hgm : a.eval m = y at hmv
      cases hmv with
      | ref _ _ _ h1 h2 => rw [h2 (by rw [hr.ver]; exact hver)]; exact g2
    have hrel := hr.mapSet hh (mput es clk n z).1 (mput es clk n z).2
    have hrun : (execOp a.eval o).run G.P E.w = .ok .skip (E.w.putObj (E.own id).blk (.map (mput es clk n z).1 (mput es clk n z).2)) := by
      simp only [execOp, ho, Sem.run_bind, hmm, hkv, hxv, run_mapUpdate_int (tMap_eq hm) (tInt_eq hki) g1 hint n z]; rfl
    unfold Oper.wp
    rw [hrun, Oper.upon_skip]
    exact ⟨_, _, rfl, Rel.put (st := st.setH id (.map (mput es clk n z).1 (mput es clk n z).2)) hrel (.junk _) hdst, h⟩
  · rename_i t x lo hi mx ho
    unfold onRptr at h
    split at h
    · rename_i id k i j hev
      obtain ⟨r, h1, hk⟩ := h
      have hrf := hr.freeze id
      have h1' : evalV G.P (st.freeze id) o.op = some r := by rw [ho]; exact h1
      obtain ⟨z, h3, h4⟩ := evalV_sound hrf h1'
      have h3' : (execOp a.eval o).run G.P E.w = .ok (.value z) E.w := h3
      unfold Oper.wp
      rw [h3', Oper.upon_value]
      exact ⟨_, E.fz st id, rfl, hrf.put h4 hdst, hk⟩
    · obtain ⟨r, hr1, hk⟩ := h
      exact value (by rw [ho]; exact hr1) hk
  · rename_i t x ho
    split at h
    case h_2 => cases h
    rename_i d hdd
    obtain ⟨hm, h⟩ := h
    obtain ⟨⟨kt, et⟩, hm⟩ := Option.isSome_iff_exists.mp hm
    have fin : ∀ (st : St) (E : Env) (hr : Rel G st E a) (es : Array MapEntry) (clk : Nat) (xv : Value) (hgx : a.eval x = xv) (hxv : VR E (.mapv es clk) xv) (hok : mapOK es clk) (hk : K ((st.setIter (G.ids d) es clk []).put (some d) (.rptr (G.ids d) (st.ver (G.ids d) + 1) 0 0))),
        o.wp G.P a E.w (fun a' w' => ∃ st' E', E'.w = w' ∧ Rel G st' E' a' ∧ K st') Q := by
      intro st E hr es clk xv hgx hxv hok hk
      cases hxv with
      | mapv _ _ b hS hb =>
        obtain ⟨E', hw, hrel, hv⟩ := hr.iterOwn hS hb hok (G.ids d)
        have hrun : (execOp a.eval o).run G.P E.w = .ok (.value (.pointer (some ⟨E.w.heap.size, 0, none⟩))) E'.w := by
          simp [execOp, ho, hgx, run_range_map E.w t kt et b es clk (tMap_eq hm) hb, hw]
        unfold Oper.wp
        rw [hrun, Oper.upon_value, hdd]
        exact ⟨_, E', rfl, hrel.put hv (fun d' he => by cases he; exact hdst _ hdd), hk⟩
    unfold onMapF at h
    split at h
    · rename_i es clk hev
      obtain ⟨hok, hk⟩ := h
      have hxv := hr.ev x
      rw [hev] at hxv
      exact fin st E hr es clk _ rfl hxv hok hk
    · rename_i id k hev
      obtain ⟨hver, h⟩ := h
      split at h
      case h_2 => cases h
      rename_i es clk hh
      obtain ⟨hok, hk⟩ := h
      have hrf := hr.freeze id
      have hxv := fz_sound hr (id := id) (hr.ev x)
      rw [hev] at hxv
      have hfz : fz st id (.ref id k) = .mapv es clk := by
        show fz0 st id (.ref id k) = _
        simp [fz0, hver, hh]
      rw [hfz] at hxv
      exact fin (st.freeze id) (E.fz st id) hrf es clk _ rfl hxv hok hk
    · cases h
  · rename_i x bb ho
    obtain ⟨rfl, h⟩ := h
    obtain ⟨id, es, clk, done, hev, hh, hk0, hk1⟩ := onIter_eq h
    have hxv := hr.ev x
    rw [hev] at hxv
    have hxp : a.eval x = .pointer (some ⟨(E.own id).blk, 0, none⟩) := by
      have hb := hr.blocks id
      rw [hh] at hb
      obtain ⟨_, _, _, _, _, _, _, _, hsz⟩ := hb
      generalize a.eval x = xv at hxv
      cases hxv with
      | rptr _ _ _ _ _ h1 h2 => rw [h2 (by rw [hr.ver])]; simp
    rcases hr.iterNext hh o.type with ⟨hall, h1⟩ | ⟨e, he, hnew, w', h1, hrel⟩
    · have hrun : (execOp a.eval o).run G.P E.w = .ok (.value (.tuple #[.bool false])) E.w := by
        simp [execOp, ho, hxp, h1]
      unfold Oper.wp
      rw [hrun, Oper.upon_value]
      exact ⟨_, E, rfl, hr.put (.tup _ _ rfl (fun i c hc => by
        match i, hc with
        | 0, hc => cases hc; exact .v _)) hdst, hk0 hall⟩
    · have hrun : (execOp a.eval o).run G.P E.w = .ok (.value (.tuple #[.bool true, e.key, e.val])) w' := by
        simp [execOp, ho, hxp, h1]
      unfold Oper.wp
      rw [hrun, Oper.upon_value]
      exact ⟨_, _, rfl, hrel.put (.tup _ _ rfl (fun i c hc => by
        match i, hc with
        | 0, hc => cases hc; exact .v _
        | 1, hc => cases hc; exact .v _
        | 2, hc => cases hc; exact .v _)) hdst, hk1 e he hnew⟩
  · rename_i x ho
    obtain ⟨id, es, clk, done, hev, hh, e, hl, hk⟩ := onIter_eq h
    have hxv := hr.ev x
    rw [hev] at hxv
    have hb := hr.blocks id
    rw [hh] at hb
    obtain ⟨b, hS, hm, hit, _, _, hok, hin, hsz⟩ := hb
    have hxp : a.eval x = .pointer (some ⟨(E.own id).blk, 0, none⟩) := by
      generalize a.eval x = xv at hxv
      cases hxv with
      | rptr _ _ _ _ _ h1 h2 => rw [h2 (by rw [hr.ver])]; simp
    obtain ⟨done', rfl⟩ : ∃ done', done = done' ++ [e] := by
      obtain ⟨ys, hys⟩ := List.getLast?_eq_some_iff.1 hl
      exact ⟨ys, hys⟩
    have hit' : E.w.heap[(E.own id).blk]? = some (.mapIter (some b) clk ((done'.map (·.born)).toArray.push e.born) clk) := by
      rw [hit]; simp
    have h1 := run_entry_at (P := G.P) E.w (E.own id).blk b clk _ es clk e hit' hm (hin e (by simp)) hok.2
    have hrun : (execOp a.eval o).run G.P E.w = .ok (.value (.tuple #[e.key, e.val])) E.w := by
      simp [execOp, ho, hxp, h1]
    unfold Oper.wp
    rw [hrun, Oper.upon_value]
    exact ⟨_, E, rfl, hr.put (.tup _ _ rfl (fun i c hc => by
      match i, hc with
      | 0, hc => cases hc; exact .v _
      | 1, hc => cases hc; exact .v _)) hdst, hk⟩
  · obtain ⟨r, hr1, hk⟩ := h
    exact value hr1 hk

/-! ### In whatever frame -/

theorem comesIn_F {P : Program} {m m' : Machine} {e : Ending} (h : Comes P m m' e) : ComesIn (Machine.fenced P G.F) P m m' e := comesIn_wide.2 h
theorem callsIn_F {n : Nat} {P : Program} {f : FuncId} {args : Array Value} {w : World} {R : Ending → World → Prop} (h : Calls P f args w R) : CallsIn G.F n P f args w R :=
  ⟨trivial, fun cs _ => let ⟨e, w', fr, r, s, x⟩ := h cs; ⟨e, w', fr, r, comesIn_F s, x⟩⟩
theorem rowsIn_F {n : Nat} {P : Program} {row : String} {args : Array Value} {w : World} {R : Value → World → Prop} (h : Rows P row args w R) : RowsIn G.F n P row args w R :=
  fun c cs _ => let ⟨v, w', r, s⟩ := h c cs; ⟨v, w', r, stepsIn_wide.2 s⟩

theorem Oper.wpIn_of_wp {o : Oper} {w : World} {K : Act → World → Prop} {Q : Exit → Act → World → Prop} (hnd : ∀ c, o.op ≠ .defer c) (h : o.wp G.P a w K Q) : o.wpIn G.F 0 G.P a w K Q := by
  refine ⟨fun _ _ => trivial, ?_⟩
  have e : o.semAt G.F.round a.eval = execOp a.eval o := by
    unfold Oper.semAt
    split
    · rename_i hop; exact (hnd _ hop).elim
    · rfl
  rw [e]
  unfold Oper.wp at h
  generalize (execOp a.eval o).run G.P w = res at h
  cases res with
  | ok nx w' =>
    cases nx <;> first | exact h | exact h.elim | exact ⟨fun h => (by cases h), callsIn_F h⟩ | exact ⟨fun h => (by cases h), rowsIn_F h⟩
  | halt hl w' => cases hl <;> first | exact h | exact h.elim

theorem vcOp_noDefer {own : List Nat} {o : Oper} {K : St → Prop} (h : vcOp G own K o st) : ∀ c, o.op ≠ .defer c := by
  intro c hc
  unfold vcOp at h
  simp only [hc] at h
  obtain ⟨r, hr, _⟩ := h
  cases hr

theorem vcOp_sound (own : List Nat) {o : Oper} {K : St → Prop} (hd : dstOK G.n o.dst) (hr : Rel G st E a) (h : vcOp G own K o st) {Q : Exit → Act → World → Prop} :
    o.wpIn G.F 0 G.P a E.w (fun a' w' => ∃ st' E', E'.w = w' ∧ Rel G st' E' a' ∧ K st') Q := by
  by_cases hny : ∀ c f l, o.op = .call c → c.callee = .value f → st.ev f ≠ .v (.func (.yield l) #[] #[])
  · exact Oper.wpIn_of_wp (vcOp_noDefer h) (vcOp_sound0 own hny hd hr h)
  · have hy : ∃ c f l, o.op = .call c ∧ c.callee = .value f ∧ st.ev f = .v (.func (.yield l) #[] #[]) :=
      Classical.byContradiction fun hn => hny fun c f l h1 h2 h3 => hn ⟨c, f, l, h1, h2, h3⟩
    obtain ⟨c, f, l, ho, hcal, hf⟩ := hy
    have h' := h
    unfold vcOp at h'
    simp only [ho, hcal, hf, onFn2_y] at h'
    have hfe : a.eval f = .func (.yield l) #[] #[] := by have := hr.ev f; rw [hf] at this; exact this.v_inv
    obtain ⟨fn, tmps, assign, body, h1, h2⟩ := h' E a (c.args.map a.eval) hr (by simp) fun i p hp => by
      simp only [List.getElem?_map, Option.map_eq_some_iff, Array.getElem?_toList] at hp
      obtain ⟨x, hx, rfl⟩ := hp
      simp only [Array.getD_eq_getD_getElem?, Array.getElem?_map, hx, Option.map_some, Option.getD_some]
      exact hr.ev x
    refine ⟨fun _ _ => trivial, ?_⟩
    have e : o.semAt G.F.round a.eval = execOp a.eval o := by
      unfold Oper.semAt
      split
      · rename_i hop; rw [ho] at hop; cases hop
      · rfl
    rw [e]
    have hrun : (execOp a.eval o).run G.P E.w = .ok (.round l fn tmps assign body) E.w := by
      simp [execOp, ho, resolve, hcal, hfe, Deferred.ofValue, invoke, h1]
    rw [hrun, Oper.uponIn_round]
    refine ⟨fun h => (by cases h), h2.mono ?_⟩
    rintro e w' ⟨v, rfl, st', E', rfl, hrel, hk⟩
    exact ⟨st', E', rfl, hrel, hk⟩

theorem guardV_sound {ops : Array Oper} {j : Nat} {t : Tmp} {want b : Bool} (hr : Rel G st E a) (ht : guardSlot ops j = some t) (h : guardV (st.σ t) want = some b) : (yielded ops a.tmps j == some want) = b := by
  have hs := hr.slots t
  unfold guardSlot at ht
  unfold yielded
  rw [ht]
  simp only [Array.getD_eq_getD_getElem?] at hs
  unfold guardV at h
  split at h
  · rename_i x hx
    rw [hx] at hs
    have hvv := hs.v_inv
    cases h
    cases htt : a.tmps[t]? with
    | none => simp [htt, undef] at hvv
    | some y => simp [htt] at hvv; subst hvv; simp [htt]
  · rename_i us hx
    rw [hx] at hs
    have hvv := hs.v_inv
    cases h
    cases htt : a.tmps[t]? with
    | none => simp [htt]
    | some y => simp [htt] at hvv; subst hvv; simp [htt]
  · cases h

theorem vcOps_sound (own : List Nat) {ops : Array Oper} {Q : St → Prop} {Q' : Exit → Act → World → Prop} : ∀ (l : List Oper) (st : St) (E : Env) (a : Act), Rel G st E a → vcOps G own ops Q l st → (∀ st' E' a', Rel G st' E' a' → Q st' → Q' .normal a' E'.w) →
    wpListIn G.F 0 G.P ops Q' l a E.w
  | [], st, E, a, hr, h, hq => hq st E a hr h
  | o :: rest, st, E, a, hr, h, hq => by
    obtain ⟨hd, h⟩ := h
    have ih := vcOps_sound own (ops := ops) (Q := Q) (Q' := Q') rest
    have go : vcOp G own (vcOps G own ops Q rest) o st → o.wpIn G.F 0 G.P a E.w (wpListIn G.F 0 G.P ops Q' rest) Q' := fun hv =>
      Oper.wpIn_mono (fun a' w' ⟨st', E', hw, hrel, hk⟩ => by subst hw; exact ih st' E' a' hrel hk hq) (vcOp_sound own hd hr hv)
    unfold wpListIn
    unfold Region.wanted
    split at h
    · rename_i hg
      simp only [hg, if_true]
      exact go h
    · rename_i j want hg
      simp only [hg]
      split at h
      · rename_i t ht
        · obtain ⟨b, hb, h⟩ := h
          rw [guardV_sound hr ht hb]
          cases b with
          | true =>
            simp only [if_true] at h ⊢
            exact go h
          | false =>
            simp only [Bool.false_eq_true, if_false] at h ⊢
            exact ⟨fun _ _ => trivial, ih _ E _ (hr.put (.v undef) (fun d he => by rw [he] at hd; exact hd)) h hq⟩
      · cases h

/-- A region that goes by the order of its text. -/
theorem AWp.region {id : Nat} {ops : Array Oper} {Q : Exit → St → Prop} (own : List Nat) (h : vcOps G own ops (Q .normal) ops.toList st) : AWp G (.region id ops false) Q st := fun E a hr =>
  wpIn_region_list (vcOps_sound own ops.toList st E a hr h fun st' E' _ hr' hq => ⟨st', E', rfl, hr', hq⟩)

/-! ### Calls by contract -/

theorem CallSem.pure {g : FuncId} {args : List AV} {dst : Option Tmp} {K : St → Prop} {r : AV} (hac : AC G.P g args r) (hd : dstOK G.n dst) (hk : K ((st.take (G.ids (dst.getD 0)) r).1.put dst (st.take (G.ids (dst.getD 0)) r).2)) : CallSem G g args dst K st := by
  refine ⟨hac.fn, fun E a vs hr hl hv => ?_⟩
  refine (hac.run E.S E.w vs hr.Slt hl fun i p hp => (hac.pargs p (List.mem_of_getElem? hp)).to0 (hv i p hp)).mono ?_
  rintro e w' ⟨v, S', rfl, hb, h1, h2, h3, h4⟩
  obtain ⟨hrel, hle⟩ := hr.afterCall hb h1 h2 h3
  obtain ⟨E', hw, _, hrel', hv'⟩ := hrel.take (B := E.w.heap.size) hr.below.size hac.pres h4 (fun j b hb => ((hr.blocks j).at_lt hb).2.1) (G.ids (dst.getD 0))
  exact ⟨v, rfl, _, E', hw, hrel'.put hv' (fun d he => by rw [he] at hd; exact hd), hk⟩

theorem RR1.flat {E E' : Env} {base : Nat} {r : AV} {x : Value} (hf : FlatR1 r) (hw : E'.w = E.w) (hS : ∀ b, E'.S b → E.S b) (h : RR1 E base r x) : RR1 E' base r x := by
  cases r with
  | fresh e sz xs =>
    obtain ⟨us, h1, h2, h3, h4⟩ := h
    refine ⟨us, by rw [hw]; exact h1, h2, ⟨h3.1, fun i c u hc hu => ?_⟩, fun b hb hS' => h4 b hb (hS b hS')⟩
    obtain ⟨y, hy, hm⟩ := List.mem_flatMap.1 (List.mem_of_getElem? hc)
    exact hf y hy c hm _ _ _ (h3.2 i c u hc hu)
  | _ => exact hf _ _ _ h

theorem RR.flat {E E' : Env} {base : Nat} {r : AV} {x : Value} (hf : FlatR r) (hw : E'.w = E.w) (hS : ∀ b, E'.S b → E.S b) (h : RR E base r x) : RR E' base r x := by
  by_cases ht : ∃ rs, r = .tup rs
  · obtain ⟨rs, rfl⟩ := ht
    obtain ⟨us, h1, h2, h3, h4⟩ := h
    exact ⟨us, h1, h2, fun i r hi => (h3 i r hi).flat (hf r (List.mem_of_getElem? hi)) hw hS, h4⟩
  · have e1 : ∀ E, RR E base r x = RR1 E base r x := fun E => by cases r <;> first | rfl | exact absurd ⟨_, rfl⟩ ht
    have e2 : FlatR r = FlatR1 r := by cases r <;> first | rfl | exact absurd ⟨_, rfl⟩ ht
    rw [e1] at h ⊢
    rw [e2] at hf
    exact h.flat hf hw hS

/-- A call that is lent memory of the walk's own, and hands back nothing that leads into it. -/
theorem CallSem.lent {g : FuncId} {args : List AV} {dst : Option Tmp} {K : St → Prop} {r : AV} (hac : AC G.P g (args.map (borrow st)) r) (hflat : FlatR r) (hd : dstOK G.n dst) (hk : K ((st.take (G.ids (dst.getD 0)) r).1.put dst (st.take (G.ids (dst.getD 0)) r).2)) :
    CallSem G g args dst K st := by
  refine ⟨hac.fn, fun E a vs hr hl hv => ?_⟩
  refine (hac.run E.all.S E.w vs (fun _ h => h) (by simpa using hl) fun i p hp => ?_).mono ?_
  · have hpure := hac.pargs p (List.mem_of_getElem? hp)
    simp only [List.getElem?_map, Option.map_eq_some_iff] at hp
    obtain ⟨q, hq, rfl⟩ := hp
    exact hpure.to0 (borrow_sound hr (hv i q hq))
  · rintro e w' ⟨v, S', rfl, hb, h1, h2, h3, h4⟩
    obtain ⟨hrel, hle⟩ := hr.afterCall (S' := E.S) hb (fun _ h => h) (fun _ h => .inl h) fun b h => Nat.lt_of_lt_of_le (hr.Slt b h) hb.size
    have h4' : RR (env0 E.S w') E.w.heap.size r v := RR.flat (E := env0 S' w') (E' := env0 E.S w') hflat rfl (fun b h => h1 b (hr.Slt b h)) h4
    obtain ⟨E', hw, _, hrel', hv'⟩ := hrel.take (B := E.w.heap.size) hr.below.size hac.pres h4' (fun j b hb => ((hr.blocks j).at_lt hb).2.1) (G.ids (dst.getD 0))
    exact ⟨v, rfl, _, E', hw, hrel'.put hv' (fun d he => by rw [he] at hd; exact hd), hk⟩

/-- Arguments may be taken for weaker ones. -/
theorem CallSem.wk {g : FuncId} {args args' : List AV} {dst : Option Tmp} {K : St → Prop} (hw : WkL args args') (h : CallSem G g args' dst K st) : CallSem G g args dst K st := by
  obtain ⟨h1, h2⟩ := hw.get
  refine ⟨h.1, fun E a vs hr hl hv => h.2 E a vs hr (by rw [← h1]; exact hl) fun i q hi => ?_⟩
  have hlt : i < args.length := by rw [h1]; exact (List.getElem?_eq_some_iff.1 hi).1
  have hp := List.getElem?_eq_getElem hlt
  exact (h2 i _ _ hp hi).sound (hv i _ hp)
/-- Own memory that is written no more is given away. -/
theorem CallSem.freeze (id : Nat) {g : FuncId} {args : List AV} {dst : Option Tmp} {K : St → Prop} (h : CallSem G g (args.map (fz st id)) dst K (st.freeze id)) : CallSem G g args dst K st := by
  refine ⟨h.1, fun E a vs hr hl hv => h.2 (E.fz st id) a vs (hr.freeze id) (by simpa using hl) fun i p hi => ?_⟩
  simp only [List.getElem?_map, Option.map_eq_some_iff] at hi
  obtain ⟨q, hq, rfl⟩ := hi
  exact fz_sound hr (hv i q hq)
/-- A call by contract. -/
theorem CallSem.by {g : FuncId} {args args' : List AV} {dst : Option Tmp} {K : St → Prop} {r : AV} (hac : AC G.P g args' r) (hw : WkL args args') (hd : dstOK G.n dst) (hk : K ((st.take (G.ids (dst.getD 0)) r).1.put dst (st.take (G.ids (dst.getD 0)) r).2)) : CallSem G g args dst K st :=
  .wk hw (.pure hac hd hk)

end
end Go.Abs
