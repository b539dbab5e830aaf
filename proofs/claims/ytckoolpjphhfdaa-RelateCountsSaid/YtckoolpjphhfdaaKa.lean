/- Several texts of the proof in one: Fa, Fb, Fc, Fd, Fe, Ff. No condition. -/
import Derived.WalkKit
import Derived.WalkSpells
import Derived.WalkLawsBesides
import Derived.Deep.LoopGhost
import Derived.StillTail
import Derived.Great.BuildSlice
import Derived.Laws.Tables
import Derived.Laws.Cover3
import Derived.Laws.CopyOwn
import Derived.Laws.AppendOwnNone
import Derived.RangeFuncRecord
import Derived.TacticsIn
import Derived.OrdersIn
import Derived.WideKeyRuns
import Derived.Laws.StructEq
import Derived.Laws.BytesArg
set_option linter.unusedSimpArgs false
set_option linter.unusedVariables false
-- part Fa
namespace Go
/-- The slice value owns the first cells of its block. -/
def World.ownsRowW (w : World) (base : Nat) (e : TypeId) (size : Nat) (v : Value) (n : Nat) (xs : List Value) : Prop :=
  xs.length = n * size ∧
  ((v = .slice none 0 0 ∧ n = 0) ∨
   ∃ g cap cur, v = .slice (some ⟨g, 0, none⟩) n cap ∧ base ≤ g ∧ w.heap[g]? = some (.cells cur e (0, 0)) ∧ n ≤ cap ∧ cap ≤ maxLen ∧ cap * size ≤ cur.size ∧ cur.toList.take (n * size) = xs)
theorem World.ownsRow.w {w : World} {base : Nat} {e : TypeId} {size : Nat} {v : Value} {n : Nat} {xs : List Value} (h : w.ownsRow base e size v n xs) : w.ownsRowW base e size v n xs :=
  ⟨h.1, h.2.imp id fun ⟨g, cap, cur, h1, h2, h3, h4, h5, h6, h7⟩ => ⟨g, cap, cur, h1, h2, h3, h4, h5, Nat.le_of_eq h6.symm, h7⟩⟩
theorem World.ownsRowW_nil (w : World) (base : Nat) (e : TypeId) (size : Nat) : w.ownsRowW base e size (.slice none 0 0) 0 [] := (World.ownsRow_nil w base e size).w
theorem World.ownsRowW.lt {w : World} {base : Nat} {e : TypeId} {size : Nat} {v : Value} {n : Nat} {xs : List Value} (h : w.ownsRowW base e size v n xs) : ∀ k, v.ownBlock = some k → base ≤ k ∧ k < w.heap.size := by
  intro k hk
  rcases h.2 with ⟨rfl, _⟩ | ⟨g, cap, cur, rfl, hb, hg, _⟩
  · cases hk
  · simp only [Value.ownBlock, Option.some.injEq] at hk
    subst hk
    exact ⟨hb, (Array.getElem?_eq_some_iff.1 hg).1⟩
theorem World.ownsRowW.cells {w : World} {base : Nat} {e : TypeId} {size : Nat} {v : Value} {n : Nat} {xs : List Value} (h : w.ownsRowW base e size v n xs) {g : Nat} (hg : v.ownBlock = some g) : ∀ j u, xs[j]? = some u → w.cell? ((⟨g, 0, none⟩ : Addr).add j) = some u := by
  rcases h.2 with ⟨rfl, _⟩ | ⟨g', cap, cur, rfl, hb, hgg, hn, hc, hs, ht⟩
  · cases hg
  · simp only [Value.ownBlock, Option.some.injEq] at hg
    subst hg
    intro j u hu
    rw [show (⟨g', 0, none⟩ : Addr).add j = ⟨g', j, none⟩ by unfold Addr.add; split <;> simp_all, cell_of_row w g' j cur e (0, 0) hgg]
    rw [← ht, List.getElem?_take] at hu
    split at hu
    · simpa using hu
    · cases hu
end Go
namespace Go.Abs
open Go Go.RowKit

/-- An abstract value. -/
inductive AV where
  | junk
  | v (x : Value)
  | agg (cs : List AV)
  | tup (vs : List AV)
  | lst (sz : Nat) (xs : List AV)
  | eptr (cs : List AV) (j : Nat)
  | ref (id ver : Nat)
  | rptr (id ver i j : Nat)
  | fn (f : Fn) (first captured : List AV)
  | fresh (e sz : Nat) (xs : List AV)
  | mapv (es : Array MapEntry) (clk : Nat)
  | full (sz : Nat) (xs : List AV)
  | osl (id ver lo hi : Nat) (full : Bool)
  deriving Inhabited

def AV.cells : AV → List AV
  | .agg cs => cs
  | a => [a]

/-- A part of a slice value; 'full': without spare room. -/
def subV (x : Value) (sz lo hi : Nat) (full : Bool) : Value :=
  match x with
  | .slice ad _ c => .slice (if (if full = true then hi else c) = lo then ad else ad.map (·.add (lo * sz))) (hi - lo) ((if full = true then hi else c) - lo)
  | x => x

theorem subV_slice (ad : Option Addr) (n c sz lo hi : Nat) (full : Bool) : subV (.slice ad n c) sz lo hi full = .slice (if (if full = true then hi else c) = lo then ad else ad.map (·.add (lo * sz))) (hi - lo) ((if full = true then hi else c) - lo) := rfl

structure Own where
  val : Value
  blk : Nat
  sz : Nat

structure Env where
  ver : Nat → Nat
  own : Nat → Own
  S : Nat → Prop
  w : World

/-- 'In this environment the value stands for the abstract value.' -/
inductive VR (E : Env) : AV → Value → Prop
  | junk (x : Value) : VR E .junk x
  | v (x : Value) : VR E (.v x) x
  | agg (cs : List AV) (us : Array Value) : cs.length = us.size → (∀ (i : Nat) c, cs[i]? = some c → VR E c (us.getD i undef)) → VR E (.agg cs) (.agg us)
  | tup (cs : List AV) (us : Array Value) : cs.length = us.size → (∀ (i : Nat) c, cs[i]? = some c → VR E c (us.getD i undef)) → VR E (.tup cs) (.tuple us)
  | lst (sz : Nat) (xs : List AV) (b off cap : Nat) (u : Nat → Value) : E.S b → xs.length ≤ cap → cap ≤ maxLen →
      (∀ k, k < xs.length * sz → E.w.cell? ⟨b, off + k, none⟩ = some (u k)) → (∀ (i : Nat) x, xs[i]? = some x → x.cells.length = sz) →
      (∀ (i : Nat) x (j : Nat) c, xs[i]? = some x → x.cells[j]? = some c → VR E c (u (i * sz + j))) → VR E (.lst sz xs) (.slice (some ⟨b, off, none⟩) xs.length cap)
  | lstNil (sz : Nat) : VR E (.lst sz []) (.slice none 0 0)
  | lstNo (sz cap : Nat) (ad : Addr) : cap ≤ maxLen → VR E (.lst sz []) (.slice (some ad) 0 cap)
  | eptr (cs : List AV) (j b off : Nat) (u : Nat → Value) : E.S b → (∀ k, k < cs.length → E.w.cell? ⟨b, off + k, none⟩ = some (u k)) →
      (∀ (k : Nat) c, cs[k]? = some c → VR E c (u k)) → VR E (.eptr cs j) (.pointer (some ⟨b, off + j, none⟩))
  | ref (id k : Nat) (x : Value) : k ≤ E.ver id → (k = E.ver id → x = (E.own id).val) → VR E (.ref id k) x
  | rptr (id k i j : Nat) (x : Value) : k ≤ E.ver id → (k = E.ver id → x = .pointer (some ⟨(E.own id).blk, i * (E.own id).sz + j, none⟩)) → VR E (.rptr id k i j) x
  | fn (f : Fn) (first captured : List AV) (us vs : Array Value) : first.length = us.size → captured.length = vs.size →
      (∀ (i : Nat) c, first[i]? = some c → VR E c (us.getD i undef)) → (∀ (i : Nat) c, captured[i]? = some c → VR E c (vs.getD i undef)) → VR E (.fn f first captured) (.func f us vs)
  | mapv (es : Array MapEntry) (clk b : Nat) : E.S b → E.w.heap[b]? = some (.map es clk) → VR E (.mapv es clk) (.map (some b))
  | full (sz : Nat) (xs : List AV) (ad : Option Addr) : VR E (.lst sz xs) (.slice ad xs.length xs.length) → VR E (.full sz xs) (.slice ad xs.length xs.length)
  | osl (id k lo hi : Nat) (full : Bool) (x : Value) : k ≤ E.ver id → (k = E.ver id → x = subV (E.own id).val (E.own id).sz lo hi full) → VR E (.osl id k lo hi full) x

/-- One environment later than another. -/
structure Env.Le (E E' : Env) : Prop where
  S : ∀ b, E.S b → E'.S b
  heap : ∀ b, E.S b → E'.w.heap[b]? = E.w.heap[b]?
  ver : ∀ id, E.ver id ≤ E'.ver id
  own : ∀ id, E'.ver id = E.ver id → E'.own id = E.own id

theorem Env.Le.refl (E : Env) : E.Le E := ⟨fun _ h => h, fun _ _ => rfl, fun _ => Nat.le_refl _, fun _ _ => rfl⟩
theorem Env.Le.trans {A B C : Env} (h : A.Le B) (k : B.Le C) : A.Le C :=
  ⟨fun b hb => k.S b (h.S b hb), fun b hb => (k.heap b (h.S b hb)).trans (h.heap b hb), fun id => Nat.le_trans (h.ver id) (k.ver id), fun id he => by
    have h1 := h.ver id; have h2 := k.ver id
    rw [k.own id (by omega), h.own id (by omega)]⟩

theorem VR.mono {E E' : Env} (hle : E.Le E') {a : AV} {x : Value} (h : VR E a x) : VR E' a x := by
  induction h with
  | junk x => exact .junk x
  | v x => exact .v x
  | agg cs us hl _ ih => exact .agg cs us hl ih
  | tup cs us hl _ ih => exact .tup cs us hl ih
  | lst sz xs b off cap u hS h1 h2 h3 h4 _ ih =>
    exact .lst sz xs b off cap u (hle.S b hS) h1 h2 (fun k hk => by rw [World.cell?_of_block (w := E.w) (hle.heap b hS)]; exact h3 k hk) h4 ih
  | lstNil sz => exact .lstNil sz
  | lstNo sz cap ad h => exact .lstNo sz cap ad h
  | eptr cs j b off u hS h1 _ ih => exact .eptr cs j b off u (hle.S b hS) (fun k hk => by rw [World.cell?_of_block (w := E.w) (hle.heap b hS)]; exact h1 k hk) ih
  | ref id k x h1 h2 =>
    have := hle.ver id
    exact .ref id k x (by omega) fun hk => by rw [hle.own id (by omega)]; exact h2 (by omega)
  | rptr id k i j x h1 h2 =>
    have := hle.ver id
    exact .rptr id k i j x (by omega) fun hk => by rw [hle.own id (by omega)]; exact h2 (by omega)
  | fn f first captured us vs h1 h2 _ _ ih1 ih2 => exact .fn f first captured us vs h1 h2 ih1 ih2
  | mapv es clk b hS h1 => exact .mapv es clk b (hle.S b hS) (by rw [hle.heap b hS]; exact h1)
  | full sz xs ad _ ih => exact .full sz xs ad ih
  | osl id k lo hi full x h1 h2 =>
    have := hle.ver id
    exact .osl id k lo hi full x (by omega) fun hk => by rw [hle.own id (by omega)]; exact h2 (by omega)

/-- An abstract value that names no block of the caller's own. -/
def Pure (a : AV) : Prop := ∀ (ver ver' : Nat → Nat) (own own' : Nat → Own) (S : Nat → Prop) (w : World) (x : Value), VR ⟨ver, own, S, w⟩ a x → VR ⟨ver', own', S, w⟩ a x
/-- An abstract value that names no memory at all. -/
def Flat (a : AV) : Prop := ∀ (E E' : Env) (x : Value), VR E a x → VR E' a x

theorem Flat.pure {a : AV} (h : Flat a) : Pure a := fun _ _ _ _ _ _ _ hx => h _ _ _ hx
theorem flat_v (x : Value) : Flat (.v x) := fun _ _ _ h => by cases h; exact .v _
theorem flat_junk : Flat .junk := fun _ _ _ _ => .junk _
theorem pure_v (x : Value) : Pure (.v x) := (flat_v x).pure
theorem flat_agg {cs : List AV} (h : ∀ c ∈ cs, Flat c) : Flat (.agg cs) := fun E E' x hx => by
  cases hx with
  | agg _ us hl hc => exact .agg _ us hl fun i c hi => h c (List.mem_of_getElem? hi) E E' _ (hc i c hi)
theorem flat_tup {cs : List AV} (h : ∀ c ∈ cs, Flat c) : Flat (.tup cs) := fun E E' x hx => by
  cases hx with
  | tup _ us hl hc => exact .tup _ us hl fun i c hi => h c (List.mem_of_getElem? hi) E E' _ (hc i c hi)
theorem pure_agg {cs : List AV} (h : ∀ c ∈ cs, Pure c) : Pure (.agg cs) := fun ver ver' own own' S w x hx => by
  cases hx with
  | agg _ us hl hc => exact .agg _ us hl fun i c hi => h c (List.mem_of_getElem? hi) ver ver' own own' S w _ (hc i c hi)
theorem pure_tup {cs : List AV} (h : ∀ c ∈ cs, Pure c) : Pure (.tup cs) := fun ver ver' own own' S w x hx => by
  cases hx with
  | tup _ us hl hc => exact .tup _ us hl fun i c hi => h c (List.mem_of_getElem? hi) ver ver' own own' S w _ (hc i c hi)
theorem pure_lst {sz : Nat} {xs : List AV} (h : ∀ x ∈ xs, ∀ c ∈ x.cells, Pure c) : Pure (.lst sz xs) := fun ver ver' own own' S w x hx => by
  cases hx with
  | lst _ _ b off cap u h0 h1 h2 h3 h4 h5 =>
    exact .lst _ _ b off cap u h0 h1 h2 h3 h4 fun i x j c hi hj => h x (List.mem_of_getElem? hi) c (List.mem_of_getElem? hj) ver ver' own own' S w _ (h5 i x j c hi hj)
  | lstNil => exact .lstNil _
  | lstNo _ _ _ hc => exact .lstNo _ _ _ hc
theorem pure_eptr {cs : List AV} {j : Nat} (h : ∀ c ∈ cs, Pure c) : Pure (.eptr cs j) := fun ver ver' own own' S w x hx => by
  cases hx with
  | eptr _ _ b off u h0 h1 h2 => exact .eptr _ _ b off u h0 h1 fun i c hi => h c (List.mem_of_getElem? hi) ver ver' own own' S w _ (h2 i c hi)
theorem pure_fn {f : Fn} {first captured : List AV} (h : ∀ c ∈ first, Pure c) (h' : ∀ c ∈ captured, Pure c) : Pure (.fn f first captured) := fun ver ver' own own' S w x hx => by
  cases hx with
  | fn _ _ _ us vs h1 h2 h3 h4 =>
    exact .fn _ _ _ us vs h1 h2 (fun i c hi => h c (List.mem_of_getElem? hi) ver ver' own own' S w _ (h3 i c hi)) (fun i c hi => h' c (List.mem_of_getElem? hi) ver ver' own own' S w _ (h4 i c hi))
theorem pure_mapv (es : Array MapEntry) (clk : Nat) : Pure (.mapv es clk) := fun ver ver' own own' S w x hx => by
  cases hx with
  | mapv _ _ b h1 h2 => exact .mapv _ _ b h1 h2
theorem Pure.cells {a : AV} (h : Pure a) (hagg : ∀ cs, a = .agg cs → ∀ c ∈ cs, Pure c) : ∀ c ∈ a.cells, Pure c := by
  intro c hc
  cases a with
  | agg cs => exact hagg cs rfl c hc
  | _ => simp only [AV.cells, List.mem_singleton] at hc; subst hc; exact h

/-- A map as this program's own text makes it: no two entries have one stamp, or one number as key. -/
def keyI (e : MapEntry) : Int :=
  match e.key with
  | .int _ n => n
  | _ => 0
def mapOK (es : Array MapEntry) (clk : Nat) : Prop := (∀ x ∈ es.toList, x.born < clk) ∧ (es.toList.map (·.born)).Nodup
/-- What an own block holds. -/
inductive Blk where
  | none
  | arr (e sz : Nat) (xs : List AV)
  | box (cs : List AV)
  | map (es : Array MapEntry) (clk : Nat)
  | obj (x : Obj)
  | iter (es : Array MapEntry) (clk : Nat) (done : List MapEntry)
  deriving Inhabited

def VRs (E : Env) (as : List AV) (us : List Value) : Prop := as.length = us.length ∧ ∀ (i : Nat) a u, as[i]? = some a → us[i]? = some u → VR E a u

theorem VRs.mono {E E' : Env} (hle : E.Le E') {as : List AV} {us : List Value} (h : VRs E as us) : VRs E' as us := ⟨h.1, fun i a u ha hu => (h.2 i a u ha hu).mono hle⟩

def BR (E : Env) (base : Nat) (o : Own) : Blk → Prop
  | .none => True
  | .arr e sz xs => o.sz = sz ∧ ∃ us, E.w.ownsRowW base e sz o.val xs.length us ∧ (∀ x ∈ xs, x.cells.length = sz) ∧ VRs E (xs.flatMap AV.cells) us ∧ (∀ b, o.val.ownBlock = some b → o.blk = b ∧ ¬ E.S b)
  | .box cs => ∃ (us : Array Value) (t : TypeId), E.w.heap[o.blk]? = some (.cells us t (0, 0)) ∧ base ≤ o.blk ∧ ¬ E.S o.blk ∧ VRs E cs us.toList
  | .map es clk => E.w.heap[o.blk]? = some (.map es clk) ∧ o.val = .map (some o.blk) ∧ base ≤ o.blk ∧ ¬ E.S o.blk
  | .obj x => E.w.heap[o.blk]? = some x ∧ base ≤ o.blk ∧ ¬ E.S o.blk
  | .iter es clk done => ∃ b, E.S b ∧ E.w.heap[b]? = some (.map es clk) ∧ E.w.heap[o.blk]? = some (.mapIter (some b) clk (done.map (·.born)).toArray clk) ∧ base ≤ o.blk ∧ ¬ E.S o.blk ∧ mapOK es clk ∧ (∀ x ∈ done, x ∈ es.toList) ∧ o.sz = 0

def Blk.at (o : Own) : Blk → Option Nat
  | .none => .none
  | .arr .. => o.val.ownBlock
  | .box _ => some o.blk
  | .map .. => some o.blk
  | .obj _ => some o.blk
  | .iter .. => some o.blk

structure St where
  σ : Nat → AV
  ver : Nat → Nat
  h : Nat → Blk

def upd {α : Type} (f : Nat → α) (i : Nat) (x : α) : Nat → α := fun j => if j = i then x else f j
theorem upd_same {α : Type} (f : Nat → α) (i : Nat) (x : α) : upd f i x i = x := by simp [upd]
theorem upd_ne {α : Type} (f : Nat → α) {i j : Nat} (x : α) (h : j ≠ i) : upd f i x j = f j := by simp [upd, h]

/-- The frame of a function's walk. -/
structure Ctx where
  P : Program
  w0 : World
  S0 : Nat → Prop
  n : Nat
  rnd : Option Nat := none
  ids : Nat → Nat := fun d => d
  e0 : Option Env := none
/-- No fence but the round. -/
def Ctx.F (G : Ctx) : Fence := { Fence.wide with round := G.rnd }

structure Rel (G : Ctx) (st : St) (E : Env) (a : Act) : Prop where
  size : a.tmps.size = G.n
  defers : ∀ d ∈ a.defers, ∃ r, d = ⟨.collected r, #[]⟩ ∧ E.S r ∧ G.w0.heap.size ≤ r ∧ E.w.heap[r]? = some (.deferred (some [])) ∧ ∀ E0, G.e0 = some E0 → ¬ E0.S r
  once : a.defers.Pairwise (· ≠ ·)
  le0 : ∀ E0, G.e0 = some E0 → E0.Le E
  ver : E.ver = st.ver
  below : Below G.w0.heap.size G.w0 E.w
  Slt : ∀ b, E.S b → b < E.w.heap.size
  S0 : ∀ b, G.S0 b → E.S b
  Snew : ∀ b, E.S b → G.S0 b ∨ G.w0.heap.size ≤ b
  slots : ∀ j, VR E (st.σ j) (a.tmps.getD j undef)
  blocks : ∀ id, BR E G.w0.heap.size (E.own id) (st.h id)
  apart : ∀ id id' b, id ≠ id' → (st.h id).at (E.own id) = some b → (st.h id').at (E.own id') ≠ some b

theorem wpIn_loop_ghost {F : Fence} {n : Nat} {P : Program} {Q : Exit → Act → World → Prop} {a : Act} {w : World} {c : Code} (I : Nat → Act → World → Prop) (n₀ : Nat) (h₀ : I n₀ a w)
    (round : ∀ m a w, I m a w → c.wpIn F n P (Exit.then (fun a' w' => ∃ n', n' < m ∧ I n' a' w') Q) a w) : (Code.loop c).wpIn F n P Q a w := by
  refine wpIn_loop (fun a w => ∃ m, I m a w) (fun a w => leastOf (fun m => I m a w)) ⟨n₀, h₀⟩ ?_
  intro a w hI
  refine wpIn_mono (round _ a w (leastOf_spec hI).1) ?_
  intro e a' w' hq
  cases e with
  | normal =>
    obtain ⟨n', hlt, hI'⟩ := hq
    exact show (∃ m, I m a' w') ∧ leastOf (fun m => I m a' w') < leastOf (fun m => I m a w) from ⟨⟨n', hI'⟩, Nat.lt_of_le_of_lt ((leastOf_spec ⟨n', hI'⟩).2 n' hI') hlt⟩
  | exit id => exact hq
  | goto l => exact hq
  | ret => exact hq
  | panic ch => exact hq
  | outgrown => exact hq

/-- 'From this abstract state the code comes to an end that meets Q.' -/
def AWp (G : Ctx) (c : Code) (Q : Exit → St → Prop) (st : St) : Prop :=
  ∀ E a, Rel G st E a → c.wpIn G.F 0 G.P (fun e a' w' => ∃ st' E', E'.w = w' ∧ Rel G st' E' a' ∧ Q e st') a E.w

def thenA (K : St → Prop) (Q : Exit → St → Prop) : Exit → St → Prop
  | .normal, st => K st
  | e, st => Q e st

def inBlockA (id : Nat) (Q : Exit → St → Prop) : Exit → St → Prop
  | .exit id', st => if id' = id then Q .normal st else Q (.exit id') st
  | e, st => Q e st

section
variable {G : Ctx} {Q : Exit → St → Prop} {st : St}

theorem AWp.mono {c : Code} {Q' : Exit → St → Prop} (h : AWp G c Q st) (hq : ∀ e s, Q e s → Q' e s) : AWp G c Q' st :=
  fun E a hr => wpIn_mono (h E a hr) fun _ _ _ ⟨st', E', h1, h2, h3⟩ => ⟨st', E', h1, h2, hq _ _ h3⟩

theorem AWp.skip (h : Q .normal st) : AWp G .skip Q st := fun E _ hr => wpIn_skip ⟨st, E, rfl, hr, h⟩
theorem AWp.label {l : Nat} (h : Q .normal st) : AWp G (.label l) Q st := fun E _ hr => wpIn_label ⟨st, E, rfl, hr, h⟩
theorem AWp.ret (h : Q .ret st) : AWp G .ret Q st := fun E _ hr => wpIn_ret ⟨st, E, rfl, hr, h⟩
theorem AWp.exit {id : Nat} (h : Q (.exit id) st) : AWp G (.exit id) Q st := fun E _ hr => wpIn_exit ⟨st, E, rfl, hr, h⟩

theorem AWp.seq {x y : Code} (h : AWp G x (thenA (AWp G y Q) Q) st) : AWp G (.seq x y) Q st := fun E a hr =>
  wpIn_seq (wpIn_mono (h E a hr) fun e a' w' ⟨st', E', h1, h2, h3⟩ => by
    subst h1
    cases e with
    | normal => exact h3 E' a' h2
    | _ => exact ⟨st', E', rfl, h2, h3⟩)

theorem AWp.block {id : Nat} {c : Code} (h : AWp G c (inBlockA id Q) st) : AWp G (.block id c) Q st := fun E a hr =>
  wpIn_block (wpIn_mono (h E a hr) fun e a' w' ⟨st', E', h1, h2, h3⟩ => by
    cases e with
    | exit id' =>
      simp only [Exit.inBlock, inBlockA] at *
      split
      · rename_i he; rw [if_pos he] at h3; exact ⟨st', E', h1, h2, h3⟩
      · rename_i he; rw [if_neg he] at h3; exact ⟨st', E', h1, h2, h3⟩
    | _ => exact ⟨st', E', h1, h2, h3⟩)

/-- The value of an operand. -/
def St.ev (st : St) : Operand → AV
  | .tmp t => st.σ t
  | .const x => .v x
  | .global g => .v (.pointer (some ⟨g, 0, none⟩))
  | .func f => .fn (.func f) [] []

theorem Rel.ev {E : Env} {a : Act} (hr : Rel G st E a) (x : Operand) : VR E (st.ev x) (a.eval x) := by
  cases x with
  | tmp t => exact hr.slots t
  | const x => exact .v x
  | global g => exact .v _
  | func f => exact .fn _ [] [] #[] #[] rfl rfl (by simp) (by simp)

theorem AWp.cond {c : Operand} {x y : Code} {t : Bool} (hc : st.ev c = .v (.bool t)) (h : if t = true then AWp G x Q st else AWp G y Q st) : AWp G (.cond c x y) Q st := fun E a hr => by
  have hv := hr.ev c
  rw [hc] at hv
  refine wpIn_cond (t := t) (by generalize a.eval c = z at hv; cases hv; rfl) ?_
  cases t
  · exact h E a hr
  · exact h E a hr

theorem AWp.loop {c : Code} (I : Nat → St → Prop) (n₀ : Nat) (h₀ : I n₀ st)
    (round : ∀ n s, I n s → AWp G c (thenA (fun s' => ∃ n', n' < n ∧ I n' s') Q) s) : AWp G (.loop c) Q st := fun E a hr => by
  refine wpIn_loop_ghost (fun n a w => ∃ s E', E'.w = w ∧ Rel G s E' a ∧ I n s) n₀ ⟨st, E, rfl, hr, h₀⟩ ?_
  rintro n a w ⟨s, E', rfl, hr', hI⟩
  refine wpIn_mono (round n s hI E' a hr') ?_
  rintro e a' w' ⟨s', E'', rfl, h2, h3⟩
  cases e with
  | normal => obtain ⟨n', hn, hI'⟩ := h3; exact ⟨n', hn, s', E'', rfl, h2, hI'⟩
  | _ => exact ⟨s', E'', rfl, h2, h3⟩

end
end Go.Abs

-- part Fb
namespace Go.Abs
open Go Go.RowKit

def tSize (P : Program) (t : TypeId) : Option Nat := (P.info? t).map (·.size)
def tBytes (P : Program) (t : TypeId) : Option Nat := (P.info? t).map (·.bytes)
def tZero (P : Program) (t : TypeId) : Option Value := (P.info? t).bind (·.zero)
def tAgg (P : Program) (t : TypeId) : Option Bool :=
  match P.underlying t with
  | some (.struct _) | some (.array _ _) => some true
  | some _ => some false
  | none => none
def tElem (P : Program) (t : TypeId) : Option TypeId :=
  match P.underlying t with
  | some (.slice e) => some e
  | _ => none
/-- The offset of a field whose type is not of size 0, and that type. -/
def tField (P : Program) (t : TypeId) (f : Nat) : Option (Nat × TypeId) :=
  match P.underlying t with
  | some (.struct fs) => match fs[f]? with
    | some x => match tSize P x.type with
      | some (_ + 1) => some (x.offset, x.type)
      | _ => none
    | none => none
  | _ => none
def tInt (P : Program) (t : TypeId) : Option IntKind :=
  match P.underlying t with
  | some (.int k) => some k
  | _ => none

def tStr (P : Program) (t : TypeId) : Bool :=
  match P.underlying t with
  | some .string => true
  | _ => false
/-- A fixed array's length and the size of its elements. -/
def tArr (P : Program) (t : TypeId) : Option (Nat × Nat) :=
  match P.underlying t with
  | some (.array n e) => (tSize P e).map fun m => (n, m)
  | _ => none
theorem tArr_eq {P : Program} {t : TypeId} {n m : Nat} (h : tArr P t = some (n, m)) : ∃ e, P.underlying t = some (.array n e) ∧ tSize P e = some m := by
  unfold tArr at h
  split at h
  · rename_i n' e hu
    obtain ⟨m', h1, h2⟩ := Option.map_eq_some_iff.1 h
    simp only [Prod.mk.injEq] at h2
    obtain ⟨rfl, rfl⟩ := h2
    exact ⟨e, hu, h1⟩
  · cases h
theorem tStr_eq {P : Program} {t : TypeId} (h : tStr P t = true) : P.underlying t = some .string := by
  unfold tStr at h; split at h <;> first | assumption | cases h
theorem tElem_eq {P : Program} {t e : TypeId} (h : tElem P t = some e) : P.underlying t = some (.slice e) := by
  unfold tElem at h; split at h <;> first | (cases h; assumption) | cases h
theorem tInt_eq {P : Program} {t : TypeId} {k : IntKind} (h : tInt P t = some k) : P.underlying t = some (.int k) := by
  unfold tInt at h; split at h <;> first | (cases h; assumption) | cases h

theorem add_none (b o j : Nat) : (⟨b, o, none⟩ : Addr).add j = ⟨b, o + j, none⟩ := by
  unfold Addr.add; split <;> simp_all

theorem flat_get {sz : Nat} : ∀ (xs : List AV) (i : Nat) (x : AV) (j : Nat), (∀ x ∈ xs, x.cells.length = sz) → xs[i]? = some x → j < sz → (xs.flatMap AV.cells)[i * sz + j]? = x.cells[j]?
  | [], i, x, j, _, h, _ => by simp at h
  | y :: ys, 0, x, j, hl, h, hj => by
    have hy : y = x := by simpa using h
    subst hy
    have := hl y (by simp)
    rw [List.flatMap_cons, Nat.zero_mul, Nat.zero_add, List.getElem?_append_left (by omega)]
  | y :: ys, i + 1, x, j, hl, h, hj => by
    have h1 := hl y (by simp)
    rw [List.flatMap_cons, List.getElem?_append_right (by rw [h1, Nat.succ_mul]; omega), h1, show (i + 1) * sz + j - sz = i * sz + j from by rw [Nat.succ_mul]; omega]
    exact flat_get ys i x j (fun x hx => hl x (by simp [hx])) (by simpa using h) hj

theorem flat_length {sz : Nat} : ∀ (xs : List AV), (∀ x ∈ xs, x.cells.length = sz) → (xs.flatMap AV.cells).length = xs.length * sz
  | [], _ => by simp
  | x :: xs, h => by
    rw [List.flatMap_cons, List.length_append, flat_length xs fun y hy => h y (by simp [hy]), h x (by simp), List.length_cons, Nat.succ_mul]; omega

def ldCells (st : St) (m : Nat) : AV → Option (List AV)
  | .eptr cs j => if j + m ≤ cs.length then some ((cs.drop j).take m) else none
  | .rptr id k i j => if k = st.ver id then
      match st.h id with
      | .box cs => if i = 0 ∧ j + m ≤ cs.length then some ((cs.drop j).take m) else none
      | .arr _ _ xs => match xs[i]? with
        | some x => if j + m ≤ x.cells.length then some ((x.cells.drop j).take m) else none
        | none => none
      | _ => none
    else none
  | _ => none

def mkAV : Bool → List AV → Option AV
  | true, cs => some (.agg cs)
  | false, cs => match cs with
    | [c] => some c
    | _ => none

def ldAV (P : Program) (st : St) (t : TypeId) (x : AV) : Option AV :=
  match tAgg P t, tSize P t with
  | some b, some m => (ldCells st m x).bind (mkAV b)
  | _, _ => none

section
variable {G : Ctx} {st : St} {E : Env} {a : Act}

theorem ldCells_sound (hr : Rel G st E a) {x : AV} {y : Value} {m : Nat} {cs : List AV} (hx : VR E x y) (h : ldCells st m x = some cs) :
    ∃ (p : Addr) (us : List Value), y = .pointer (some p) ∧ us.length = m ∧ (∀ j u, us[j]? = some u → E.w.cell? (p.add j) = some u) ∧ VRs E cs us := by
  cases hx with
  | eptr ds j b off u hS h1 h2 =>
    simp only [ldCells] at h
    split at h
    · rename_i hm
      cases h
      refine ⟨_, (List.range m).map fun i => u (j + i), rfl, by simp, ?_, by simp; omega, ?_⟩
      · intro i v hv
        simp only [List.getElem?_map, List.getElem?_range', Option.map_eq_some_iff] at hv
        obtain ⟨k, hk, rfl⟩ := hv
        have hk' : k = i ∧ i < m := by
          by_cases hi : i < m
          · rw [List.getElem?_eq_getElem (by simpa using hi)] at hk; simp at hk; omega
          · rw [List.getElem?_eq_none (by simpa using hi)] at hk; cases hk
        rw [add_none, hk'.1, Nat.add_assoc]
        exact h1 _ (by omega)
      · intro i c v hc hv
        simp only [List.getElem?_take, List.getElem?_drop] at hc
        split at hc
        · rename_i him
          simp [him] at hv
          subst hv
          exact h2 _ c hc
        · cases hc
    · cases h
  | rptr id k i j _ h1 h2 =>
    simp only [ldCells] at h
    split at h
    · rename_i hk
      have hy := h2 (by rw [hr.ver]; exact hk)
      subst hy
      have hb := hr.blocks id
      split at h
      · rename_i ds hh
        rw [hh] at hb
        obtain ⟨us, t, hheap, _, _, hvs⟩ := hb
        split at h
        · rename_i hm
          cases h
          obtain ⟨rfl, hm⟩ := hm
          refine ⟨_, (us.toList.drop j).take m, rfl, ?_, ?_, ?_, ?_⟩
          · have := hvs.1; simp at this ⊢; omega
          · intro n v hv
            rw [Nat.zero_mul, Nat.zero_add, add_none, cell_of_row _ _ _ _ _ _ hheap]
            simp only [List.getElem?_take, List.getElem?_drop] at hv
            split at hv
            · simpa using hv
            · cases hv
          · have := hvs.1; simp at this ⊢; omega
          · intro n c v hc hv
            simp only [List.getElem?_take, List.getElem?_drop] at hc hv
            split at hc
            · rename_i hn; simp only [hn, if_true] at hv; exact hvs.2 _ c v hc hv
            · cases hc
        · cases h
      · rename_i e sz xs hh
        rw [hh] at hb
        obtain ⟨hsz, us, hown, hlen, hvs, hblk⟩ := hb
        split at h
        · rename_i x hx
          split at h
          · rename_i hm
            cases h
            have hxl := hlen x (List.mem_of_getElem? hx)
            have hul := hvs.1
            rw [flat_length xs hlen] at hul
            have hi : i < xs.length := (List.getElem?_eq_some_iff.1 hx).1
            have hmul : i * sz + sz ≤ xs.length * sz := by rw [← Nat.succ_mul]; exact Nat.mul_le_mul_right _ hi
            rcases Nat.eq_zero_or_pos m with hm0 | hm0
            · subst hm0
              exact ⟨_, [], rfl, rfl, by simp, by simp [VRs]⟩
            have hpos : 0 < us.length := by omega
            obtain ⟨g, hg⟩ : ∃ g, (E.own id).val.ownBlock = some g := by
              rcases hown.2 with ⟨hv, hn⟩ | ⟨g, cap, cur, hv, _⟩
              · omega
              · exact ⟨g, by rw [hv]; rfl⟩
            obtain ⟨hg1, _⟩ := hblk g hg
            have hcells := hown.cells hg
            refine ⟨_, (us.drop (i * sz + j)).take m, rfl, ?_, ?_, ?_, ?_⟩
            · simp; omega
            · intro n v hv
              rw [add_none, hsz, hg1]
              simp only [List.getElem?_take, List.getElem?_drop] at hv
              split at hv
              · have := hcells _ v hv
                rw [add_none, Nat.zero_add] at this
                exact this
              · cases hv
            · simp; omega
            · intro n c v hc hv
              simp only [List.getElem?_take, List.getElem?_drop] at hc hv
              split at hc
              · rename_i hn
                simp only [hn, if_true] at hv
                refine hvs.2 (i * sz + j + n) c v ?_ hv
                rw [Nat.add_assoc, flat_get xs i x (j + n) hlen hx (by omega)]
                exact hc
              · cases hc
          · cases h
        · cases h
      · cases h
    · cases h
  | junk _ => simp [ldCells] at h
  | v _ => simp [ldCells] at h
  | agg _ _ => simp [ldCells] at h
  | tup _ _ => simp [ldCells] at h
  | lst _ _ _ _ _ _ => simp [ldCells] at h
  | lstNil _ => simp [ldCells] at h
  | lstNo _ _ _ _ => simp [ldCells] at h
  | ref _ _ _ _ => simp [ldCells] at h
  | fn _ _ _ _ _ => simp [ldCells] at h
  | mapv _ _ _ _ _ => simp [ldCells] at h
  | full _ _ _ _ => simp [ldCells] at h
  | osl _ _ _ _ _ _ _ _ => simp [ldCells] at h

theorem run_isAgg {P : Program} {t : TypeId} {b : Bool} (h : tAgg P t = some b) (w : World) : (isAgg t).run P w = .ok b w := by
  unfold tAgg at h
  unfold isAgg
  split at h
  · rename_i fs hu
    cases h
    simp [run_underlying hu]
  · rename_i n e hu
    cases h
    simp [run_underlying hu]
  · rename_i d hs ha hu
    cases h
    rw [Sem.run_bind, run_underlying hu w]
    cases d with
    | struct fs => exact (hs fs rfl).elim
    | array n e => exact (ha n e rfl).elim
    | _ => rfl
  · cases h

theorem run_sizeOf {P : Program} {t : TypeId} {m : Nat} (h : tSize P t = some m) (w : World) : (sizeOf t).run P w = .ok m w := by
  unfold tSize at h
  cases hi : P.info? t with
  | none => simp [hi] at h
  | some i => simp [hi] at h; simp [sizeOf, typeInfo, hi, h]

theorem ldAV_sound (hr : Rel G st E a) {t : TypeId} {x r : AV} {y : Value} (hx : VR E x y) (h : ldAV G.P st t x = some r) :
    ∃ z, (Instr.loadAt t y).run G.P E.w = .ok z E.w ∧ VR E r z := by
  unfold ldAV at h
  split at h
  · rename_i b m hb hm
    obtain ⟨cs, hcs, hmk⟩ := Option.bind_eq_some_iff.1 h
    obtain ⟨p, us, rfl, hul, hcell, hvs⟩ := ldCells_sound hr hx hcs
    cases b with
    | true =>
      simp only [mkAV, Option.some.injEq] at hmk
      subst hmk
      refine ⟨.agg us.toArray, ?_, .agg _ _ (by simpa using hvs.1) fun i c hc => ?_⟩
      · have := run_loadCells_list (P := G.P) E.w p us hcell
        rw [hul] at this
        simp [Instr.loadAt, Instr.sureAddr, loadVar, run_isAgg hb, run_sizeOf hm, this]
      · have hi : i < us.length := by rw [← hvs.1]; exact (List.getElem?_eq_some_iff.1 hc).1
        have := hvs.2 i c us[i] hc (List.getElem?_eq_getElem hi)
        simpa [Array.getD, hi] using this
    | false =>
      simp only [mkAV] at hmk
      split at hmk
      · rename_i c
        cases hmk
        have h1 : us.length = 1 := by have := hvs.1; simpa using this.symm
        obtain ⟨u, rfl⟩ := List.length_eq_one_iff.1 h1
        refine ⟨u, ?_, hvs.2 0 _ u rfl rfl⟩
        have := hcell 0 u rfl
        have hp : p.add 0 = p := by simp [Addr.add]
        rw [hp] at this
        simp [Instr.loadAt, Instr.sureAddr, loadVar, run_isAgg hb, this]
      · cases hmk
  · cases h

end
end Go.Abs

-- part Fc
namespace Go.Abs
open Go Go.RowKit

def intBin (op : BinOp) (k : IntKind) (x y : Int) : Option AV :=
  match op with
  | .add => some (.v (.int k (k.wrap (x + y))))
  | .sub => some (.v (.int k (k.wrap (x - y))))
  | .mul => some (.v (.int k (k.wrap (x * y))))
  | .quo => if y = 0 then none else some (.v (.int k (k.wrap (x.tdiv y))))
  | .rem => if y = 0 then none else some (.v (.int k (x.tmod y)))
  | .eql => some (.v (.bool (x == y)))
  | .neq => some (.v (.bool (x != y)))
  | .lss => some (.v (.bool (x < y)))
  | .leq => some (.v (.bool (x ≤ y)))
  | .gtr => some (.v (.bool (x > y)))
  | .geq => some (.v (.bool (x ≥ y)))
  | .shr => if y = 1 then some (.v (.int k (x.fdiv 2))) else none
  | _ => none

def strBin (op : BinOp) (x y : ByteArray) : Option AV :=
  match op with
  | .add => if ((x.size + y.size : Nat) : Int) > IntKind.i64.max then none else some (.v (.string (x ++ y)))
  | .eql => some (.v (.bool (x.toList == y.toList)))
  | .neq => some (.v (.bool (!(x.toList == y.toList))))
  | .lss => some (.v (.bool (Op.bytesLess x.toList y.toList)))
  | .leq => some (.v (.bool (Op.bytesLess x.toList y.toList || x.toList == y.toList)))
  | .gtr => some (.v (.bool (!(Op.bytesLess x.toList y.toList || x.toList == y.toList))))
  | .geq => some (.v (.bool (!(Op.bytesLess x.toList y.toList))))
  | _ => none

def boolBin (P : Program) (op : BinOp) (t : TypeId) (x y : Bool) : Option AV :=
  match P.underlying t with
  | some .bool => match op with
    | .eql => some (.v (.bool (x == y)))
    | .neq => some (.v (.bool (!(x == y))))
    | _ => none
  | _ => none

/-- How a field that is one cell is compared: as a number, a text, a truth value. -/
def fKind (P : Program) (t : TypeId) : Option Nat :=
  match P.underlying t with
  | some (.int _) => some 0
  | some .string => some 1
  | some .bool => some 2
  | _ => none
/-- The fields of a struct that can be compared cell by cell. -/
def tFlat (P : Program) (t : TypeId) : Option (List Nat) :=
  match P.underlying t with
  | some (.struct fs) => if P.stoodInHeld t = false ∧ P.eqGuardType P.depth t = false ∧ fs.toList.map (·.offset) = List.range' 0 fs.toList.length ∧ (fs.toList.all fun f => f.name != "_") = true then fs.toList.mapM fun f => fKind P f.type else none
  | _ => none
def eqKinds : List Nat → List AV → List AV → Option Bool
  | [], [], [] => some true
  | 0 :: ks, .v (.int k x) :: ps, .v (.int k' y) :: qs => if k = k' then (eqKinds ks ps qs).map fun b => (x == y) && b else none
  | 1 :: ks, .v (.string x) :: ps, .v (.string y) :: qs => (eqKinds ks ps qs).map fun b => (x.toList == y.toList) && b
  | 2 :: ks, .v (.bool x) :: ps, .v (.bool y) :: qs => (eqKinds ks ps qs).map fun b => (x == y) && b
  | _, _, _ => none
def eqOp : BinOp → Bool → Option AV
  | .eql, b => some (.v (.bool b))
  | .neq, b => some (.v (.bool !b))
  | _, _ => none
def binAV (P : Program) (op : BinOp) (t : TypeId) : AV → AV → Option AV
  | .agg xs, .agg ys => (tFlat P t).bind fun ks => (eqKinds ks xs ys).bind (eqOp op)
  | .v (.int k x), .v (.int k' y) => if k = k' then intBin op k x y else none
  | .v (.string x), .v (.string y) => strBin op x y
  | .v (.bool x), .v (.bool y) => boolBin P op t x y
  | _, _ => none

def unAV (op : UnOp) : AV → Option AV
  | .v (.bool b) => match op with | .not => some (.v (.bool !b)) | _ => none
  | .v (.int k n) => match op with | .neg => some (.v (.int k (k.wrap (0 - n)))) | _ => none
  | _ => none

def isV : AV → Bool
  | .v _ => true
  | _ => false
/-- A byte, if the value is one. -/
def byteAV : AV → Option Int
  | .v (.int .u8 n) => some n
  | _ => none
def convAV (P : Program) (src dst : TypeId) : AV → Option AV
  | .v (.int _ n) => (tInt P dst).map fun k => .v (.int k (k.wrap n))
  | .lst 1 xs => if ((tElem P src).bind (tInt P)) = some .u8 ∧ tStr P dst = true then (xs.mapM byteAV).map fun ns => .v (.string (strOfNums ns)) else none
  | _ => none

def fieldAddrAV (P : Program) (st : St) (t : TypeId) (f : Nat) : AV → Option AV
  | .eptr cs j => (tField P t f).map fun x => .eptr cs (j + x.1)
  | .rptr id k i j => if k = st.ver id then (tField P t f).map fun x => .rptr id k i (j + x.1) else none
  | _ => none

def fieldAV (P : Program) (t : TypeId) (f : Nat) : AV → Option AV
  | .agg cs => match tField P t f with
    | some (off, u) => match tAgg P u, tSize P u with
      | some b, some m => if off + m ≤ cs.length then mkAV b ((cs.drop off).take m) else none
      | _, _ => none
    | none => none
  | _ => none

def indexAddrAV (P : Program) (st : St) (t : TypeId) : AV → AV → Option AV
  | .lst sz xs, .v (.int _ i) =>
    if ((tElem P t).bind (tSize P)) = some sz ∧ 0 ≤ i ∧ i < xs.length then (xs[i.toNat]?).map fun x => .eptr x.cells 0 else none
  | .ref id k, .v (.int _ i) =>
    if k = st.ver id then
      match st.h id with
      | .arr _ sz xs => if ((tElem P t).bind (tSize P)) = some sz ∧ 0 ≤ i ∧ i < xs.length then some (.rptr id k i.toNat 0) else none
      | _ => none
    else none
  | .osl id k lo hi _, .v (.int _ i) =>
    if k = st.ver id then
      match st.h id with
      | .arr _ sz xs => if ((tElem P t).bind (tSize P)) = some sz ∧ 0 ≤ i ∧ i < ((hi - lo : Nat) : Int) ∧ hi ≤ xs.length then some (.rptr id k (lo + i.toNat) 0) else none
      | _ => none
    else none
  | .eptr cs j, .v (.int _ i) => (tArr P t).bind fun x => if 0 ≤ i ∧ i < x.1 then some (.eptr cs (j + i.toNat * x.2)) else none
  | .rptr id k n j, .v (.int _ i) => if k = st.ver id then (tArr P t).bind fun x => if 0 ≤ i ∧ i < x.1 then some (.rptr id k n (j + i.toNat * x.2)) else none else none
  | _, _ => none

def indexAV (P : Program) (t : TypeId) : AV → AV → Option AV
  | .v (.string s), .v (.int _ i) => if tStr P t = true ∧ 0 ≤ i then (s[i.toNat]?).map fun b => .v (.int .u8 b.toNat) else none
  | _, _ => none

/-- The key's and the element's type of a map. -/
def tMap (P : Program) (t : TypeId) : Option (TypeId × TypeId) :=
  match P.underlying t with
  | some (.map k e) => some (k, e)
  | _ => none
theorem tMap_eq {P : Program} {t k e : TypeId} (h : tMap P t = some (k, e)) : P.underlying t = some (.map k e) := by
  unfold tMap at h
  split at h
  · cases h; assumption
  · cases h
/-- An entry at a number. -/
def keyIs (n : Int) (e : MapEntry) : Bool :=
  match e.key with
  | .int .i64 a => n == a
  | _ => false
def keyInt (e : MapEntry) : Bool :=
  match e.key with
  | .int .i64 _ => true
  | _ => false
def findI (n : Int) : List MapEntry → Nat → Option (Nat × Value)
  | [], _ => none
  | e :: es, i => if keyIs n e = true then some (i, e.val) else findI n es (i + 1)
/-- What a map holds at a number. -/
def mget (es : Array MapEntry) (n : Int) : Option Value := (findI n es.toList 0).map (·.2)
def intM (es : Array MapEntry) : Bool := es.toList.all keyInt
/-- A key that is a text, or two texts. -/
inductive KeyQ
  | txt (s : ByteArray)
  | two (a b : ByteArray)
def KeyQ.val : KeyQ → Value
  | .txt s => .string s
  | .two a b => .agg #[.string a, .string b]
def KeyQ.is : KeyQ → Value → Bool
  | .txt s, .string x => s.toList == x.toList
  | .two a b, .agg us => match us.toList with
    | [.string x, .string y] => (a.toList == x.toList) && (b.toList == y.toList)
    | _ => false
  | _, _ => false
def KeyQ.like : KeyQ → Value → Bool
  | .txt _, .string _ => true
  | .two _ _, .agg us => match us.toList with
    | [.string _, .string _] => true
    | _ => false
  | _, _ => false
def KeyQ.okT (P : Program) (t : TypeId) : KeyQ → Bool
  | .txt _ => tStr P t
  | .two _ _ => tFlat P t == some [1, 1]
def keyQ : AV → Option KeyQ
  | .v (.string s) => some (.txt s)
  | .agg [.v (.string a), .v (.string b)] => some (.two a b)
  | _ => none
def findQ (k : KeyQ) : List MapEntry → Nat → Option (Nat × Value)
  | [], _ => none
  | e :: es, i => if k.is e.key = true then some (i, e.val) else findQ k es (i + 1)
def qget (es : Array MapEntry) (k : KeyQ) : Option Value := (findQ k es.toList 0).map (·.2)
def qM (es : Array MapEntry) (k : KeyQ) : Bool := es.toList.all fun e => k.like e.key
def lookAV (P : Program) (t : TypeId) (ok : Bool) (es : Array MapEntry) : AV → Option AV
  | .v (.int .i64 n) => (tMap P t).bind fun x => if tInt P x.1 = some .i64 ∧ intM es = true then
      (tZero P x.2).map fun z => if ok = true then .tup [.v ((mget es n).getD z), .v (.bool (mget es n).isSome)] else .v ((mget es n).getD z) else none
  | q => (keyQ q).bind fun k => (tMap P t).bind fun x => if k.okT P x.1 = true ∧ qM es k = true then
      (tZero P x.2).map fun z => if ok = true then .tup [.v ((qget es k).getD z), .v (.bool (qget es k).isSome)] else .v ((qget es k).getD z) else none
def lookupAV (P : Program) (st : St) (t : TypeId) (ok : Bool) (p q : AV) : Option AV :=
  match p with
  | .mapv es _ => lookAV P t ok es q
  | .ref id k => if k = st.ver id then
      match st.h id with
      | .map es _ => lookAV P t ok es q
      | _ => none
    else none
  | _ => none
def lenAV (P : Program) (st : St) (t : TypeId) : AV → Option AV
  | .lst _ xs => (tElem P t).map fun _ => .v (.int .i64 xs.length)
  | .ref id k => if k = st.ver id then
      match st.h id with
      | .arr _ _ xs => (tElem P t).map fun _ => .v (.int .i64 xs.length)
      | .map es _ => (tMap P t).map fun _ => .v (.int .i64 es.size)
      | _ => none
    else none
  | .osl id k lo hi _ => if k = st.ver id then
      match st.h id with
      | .arr _ _ xs => if lo ≤ hi ∧ hi ≤ xs.length then (tElem P t).map fun _ => .v (.int .i64 ((hi - lo : Nat) : Int)) else none
      | _ => none
    else none
  | .v (.slice _ n _) => (tElem P t).map fun _ => .v (.int .i64 n)
  | .v (.string s) => if tStr P t = true then some (.v (.int .i64 s.size)) else none
  | _ => none

/-- A bound of a slice expression, as a number. -/
def boundAV (st : St) (d : Nat) : Option Operand → Option Nat
  | none => some d
  | some x => match st.ev x with
    | .v (.int _ i) => if 0 ≤ i then some i.toNat else none
    | _ => none

def sliceAV (P : Program) (st : St) (t : TypeId) (lo hi mx : Option Operand) : AV → Option AV
  | .v (.string s) => if tStr P t = true ∧ mx.isNone = true then
      match boundAV st 0 lo, boundAV st s.size hi with
      | some l, some h => if l ≤ h ∧ h ≤ s.size then some (.v (.string (s.extract l h))) else none
      | _, _ => none
    else none
  | .lst sz xs => if ((tElem P t).bind (tSize P)) = some sz then
      match boundAV st 0 lo, boundAV st xs.length hi with
      | some l, some h =>
        if l ≤ h ∧ h ≤ xs.length then
          match mx with
          | none => some (.lst sz ((xs.drop l).take (h - l)))
          | some _ => match hi, boundAV st 0 mx with
            | some _, some m => if h ≤ m ∧ m ≤ xs.length then some (if m = h then .full sz ((xs.drop l).take (h - l)) else .lst sz ((xs.drop l).take (h - l))) else none
            | _, _ => none
        else none
      | _, _ => none
    else none
  | .ref id k => if k = st.ver id then
      match st.h id with
      | .arr _ sz xs => if ((tElem P t).bind (tSize P)) = some sz then
          match boundAV st 0 lo, boundAV st xs.length hi with
          | some l, some h => if l ≤ h ∧ h ≤ xs.length then
              match mx with
              | none => some (.osl id k l h false)
              | some _ => match hi, boundAV st 0 mx with
                | some _, some m => if m = h then some (.osl id k l h true) else none
                | _, _ => none
            else none
          | _, _ => none
        else none
      | _ => none
    else none
  | .eptr cs j => (tArr P t).bind fun x => if x.2 = 1 ∧ mx.isNone = true ∧ j + x.1 ≤ cs.length ∧ x.1 ≤ maxLen ∧ cs.all isV = true then
      match boundAV st 0 lo, boundAV st x.1 hi with
      | some l, some h => if l ≤ h ∧ h ≤ x.1 then some (.lst 1 ((cs.drop (j + l)).take (h - l))) else none
      | _, _ => none
    else none
  | _ => none

def minAV : AV → AV → Option AV
  | .v (.int k x), .v (.int _ y) => some (.v (.int k (if y < x then y else x)))
  | _, _ => none
def maxAV : AV → AV → Option AV
  | .v (.int k x), .v (.int _ y) => some (.v (.int k (if y > x then y else x)))
  | _, _ => none

def evalV (P : Program) (st : St) : Op → Option AV
  | .move x | .assign x => some (st.ev x)
  | .pick c x y => match st.ev c with
    | .v (.bool t) => some (if t then st.ev x else st.ev y)
    | _ => none
  | .load t x => ldAV P st t (st.ev x)
  | .binOp op t x y _ => binAV P op t (st.ev x) (st.ev y)
  | .unOp op _ x => unAV op (st.ev x)
  | .convert s d x => if (P.underlying s).isSome then convAV P s d (st.ev x) else none
  | .makeFunc f first captured => some (.fn f (first.toList.map st.ev) (captured.toList.map st.ev))
  | .fieldAddr t x f => fieldAddrAV P st t f (st.ev x)
  | .field t x f => fieldAV P t f (st.ev x)
  | .indexAddr t x i => indexAddrAV P st t (st.ev x) (st.ev i)
  | .index t x i => indexAV P t (st.ev x) (st.ev i)
  | .extract x i => match st.ev x with
    | .tup cs => cs[i]?
    | _ => none
  | .slice t x lo hi mx => sliceAV P st t lo hi mx (st.ev x)
  | .lookup t m k ok => lookupAV P st t ok (st.ev m) (st.ev k)
  | .call c => match c.callee with
    | .builtin .len => match c.args.toList, c.argTypes.toList with
      | [x], [t] => lenAV P st t (st.ev x)
      | _, _ => none
    | .builtin .min => match c.args.toList with
      | [x, y] => minAV (st.ev x) (st.ev y)
      | _ => none
    | .builtin .max => match c.args.toList with
      | [x, y] => maxAV (st.ev x) (st.ev y)
      | _ => none
    | _ => none
  | _ => none

section
variable {G : Ctx} {st : St} {E : Env} {a : Act}

theorem VR.v_inv {x y : Value} (h : VR E (.v x) y) : y = x := by cases h; rfl

theorem eqGuard_int (P : Program) (op : BinOp) (t : TypeId) (x y : Operand) (j k : IntKind) (m n : Int) (w : World) : (eqGuard op t x y (.int j m) (.int k n)).run P w = .ok () w := by
  unfold eqGuard; split <;> simp
theorem eqGuard_str (P : Program) (op : BinOp) (t : TypeId) (x y : Operand) (m n : ByteArray) (w : World) : (eqGuard op t x y (.string m) (.string n)).run P w = .ok () w := by
  unfold eqGuard; split <;> simp
theorem eqGuard_bool (P : Program) (op : BinOp) (t : TypeId) (x y : Operand) (m n : Bool) (w : World) : (eqGuard op t x y (.bool m) (.bool n)).run P w = .ok () w := by
  unfold eqGuard; split <;> simp

theorem run_part_one {P : Program} {t : TypeId} {k : Nat} (h : fKind P t = some k) (us : Array Value) (i : Nat) (hi : i < us.size) (w : World) : (part t us i).run P w = .ok (us.getD i undef) w := by
  have ha : tAgg P t = some false := by
    unfold fKind at h; unfold tAgg
    split at h <;> first | (rename_i hu; simp [hu]; done) | cases h
  simp [part, run_isAgg ha, hi]

theorem eqFields_run {P : Program} {w : World} {E : Env} (d : Nat) (us vs : Array Value) : ∀ (fs : List Field) (i : Nat) (ks : List Nat) (ps qs : List AV) (b : Bool), fs.map (·.offset) = List.range' i fs.length → (fs.all fun f => f.name != "_") = true → (fs.mapM fun f => fKind P f.type) = some ks →
    (∀ (j : Nat) p, ps[j]? = some p → i + j < us.size ∧ VR E p (us.getD (i + j) undef)) → (∀ (j : Nat) p, qs[j]? = some p → i + j < vs.size ∧ VR E p (vs.getD (i + j) undef)) → eqKinds ks ps qs = some b → (Op.eqFields (d + 1) us vs fs).run P w = .ok b w
  | [], i, ks, ps, qs, b, _, _, hk, _, _, h => by
    simp at hk; subst hk
    cases ps <;> cases qs <;> simp [eqKinds] at h
    subst h; simp [Op.eqFields]
  | f :: fs, i, ks, ps, qs, b, ho, hn, hk, hp, hq, h => by
    simp only [List.mapM_cons, Option.bind_eq_bind, Option.bind_eq_some_iff, Option.pure_def, Option.some.injEq] at hk
    obtain ⟨k, hk0, ks', hks, rfl⟩ := hk
    simp only [List.map_cons, List.length_cons, List.range'_succ, List.cons.injEq] at ho
    simp only [List.all_cons, Bool.and_eq_true, bne_iff_ne, ne_eq] at hn
    have step : ∀ (p q : AV) (ps' qs' : List AV) (x y : Value) (c b' : Bool), ps = p :: ps' → qs = q :: qs' → us.getD i undef = x → vs.getD i undef = y → (Op.equalIn (d + 1) f.type x y).run P w = .ok c w → eqKinds ks' ps' qs' = some b' → (Op.eqFields (d + 1) us vs (f :: fs)).run P w = .ok (c && b') w := by
      intro p q ps' qs' x y c b' hps hqs hx hy hc hb'
      subst hps; subst hqs
      have h1 := (hp 0 p rfl).1
      have h2 := (hq 0 q rfl).1
      have ih := eqFields_run (E := E) (w := w) d us vs fs (i + 1) ks' ps' qs' b' ho.2 hn.2 hks (fun j p hj => by have := hp (j + 1) p (by simpa using hj); rwa [show i + (j + 1) = i + 1 + j from by omega] at this) (fun j p hj => by have := hq (j + 1) p (by simpa using hj); rwa [show i + (j + 1) = i + 1 + j from by omega] at this) hb'
      unfold Op.eqFields
      rw [if_pos hn.1, Sem.run_bind, ho.1, run_part_one hk0 us i (by simpa using h1), Result.andThen_ok, Sem.run_bind, run_part_one hk0 vs i (by simpa using h2), Result.andThen_ok, Sem.run_bind, hx, hy, hc, Result.andThen_ok]
      cases c
      · simp
      · simpa using ih
    unfold eqKinds at h
    split at h
    · cases ‹_ :: _ = []›
    · rename_i ks0 k1 x ps' k2 y qs' he
      obtain ⟨rfl, rfl⟩ := List.cons.inj he
      split at h
      · rename_i hkk
        subst hkk
        obtain ⟨b', hb', rfl⟩ := Option.map_eq_some_iff.1 h
        have hu : ∃ kk, P.underlying f.type = some (.int kk) := by
          unfold fKind at hk0; split at hk0 <;> first | exact ⟨_, ‹_›⟩ | cases hk0
        obtain ⟨kk, hu⟩ := hu
        exact step _ _ _ _ _ _ _ _ rfl rfl (by have := (hp 0 _ rfl).2; rw [Nat.add_zero] at this; exact this.v_inv) (by have := (hq 0 _ rfl).2; rw [Nat.add_zero] at this; exact this.v_inv) (run_equalIn_int w d f.type k1 kk x y hu) hb'
      · cases h
    · rename_i ks0 x ps' y qs' he
      obtain ⟨rfl, rfl⟩ := List.cons.inj he
      obtain ⟨b', hb', rfl⟩ := Option.map_eq_some_iff.1 h
      have hu : P.underlying f.type = some .string := by
        unfold fKind at hk0; split at hk0 <;> first | assumption | cases hk0
      exact step _ _ _ _ _ _ _ _ rfl rfl (by have := (hp 0 _ rfl).2; rw [Nat.add_zero] at this; exact this.v_inv) (by have := (hq 0 _ rfl).2; rw [Nat.add_zero] at this; exact this.v_inv) (run_equalIn_string w d f.type x y hu) hb'
    · rename_i ks0 x ps' y qs' he
      obtain ⟨rfl, rfl⟩ := List.cons.inj he
      obtain ⟨b', hb', rfl⟩ := Option.map_eq_some_iff.1 h
      have hu : P.underlying f.type = some .bool := by
        unfold fKind at hk0; split at hk0 <;> first | assumption | cases hk0
      exact step _ _ _ _ _ _ _ _ rfl rfl (by have := (hp 0 _ rfl).2; rw [Nat.add_zero] at this; exact this.v_inv) (by have := (hq 0 _ rfl).2; rw [Nat.add_zero] at this; exact this.v_inv) (run_equalIn_bool' w d f.type x y hu) hb'
    · cases h

theorem eqOp_sound {P : Program} {op : BinOp} {t : TypeId} {xs ys : List AV} {us vs : Array Value} {ox oy : Operand} {ks : List Nat} {b : Bool} {r : AV} {E : Env} (ht : tFlat P t = some ks) (hb : eqKinds ks xs ys = some b) (hr : eqOp op b = some r) (hx : VR E (.agg xs) (.agg us)) (hy : VR E (.agg ys) (.agg vs)) :
    ∃ z, (do eqGuard op t ox oy (.agg us) (.agg vs); binOp op t (.agg us) (.agg vs) : Sem Value).run P E.w = .ok z E.w ∧ VR E r z := by
  unfold tFlat at ht
  split at ht
  case h_2 => cases ht
  rename_i fs hu
  split at ht
  case isFalse => cases ht
  rename_i hc
  obtain ⟨h1, h2, h3, h4⟩ := hc
  have hfs : P.fieldsOf t = fs := by simp [Program.fieldsOf, hu]
  have hcells : ∀ {cs : List AV} {ws : Array Value}, VR E (.agg cs) (.agg ws) → ∀ (j : Nat) p, cs[j]? = some p → 0 + j < ws.size ∧ VR E p (ws.getD (0 + j) undef) := by
    intro cs ws h j p hj
    cases h with
    | agg _ _ hl hv => rw [Nat.zero_add]; exact ⟨by rw [← hl]; exact (List.getElem?_eq_some_iff.1 hj).1, hv j p hj⟩
  have hrun : (Op.equalIn 10000 t (.agg us) (.agg vs)).run P E.w = .ok b E.w := by
    rw [show (10000 : Nat) = 9999 + 1 from rfl, run_equalIn_struct E.w 9999 t us vs (by rw [hfs]; exact hu) h1, hfs]
    exact eqFields_run (E := E) 9998 us vs fs.toList 0 ks xs ys b h3 h4 ht (hcells hx) (hcells hy) hb
  rw [Sem.run_bind, run_eqGuard_agg _ _ _ _ _ _ _ h2]
  cases op <;> simp only [eqOp, Option.some.injEq, reduceCtorEq] at hr
  · subst hr; exact ⟨_, by rw [Result.andThen_ok, run_eql_struct, hrun]; rfl, .v _⟩
  · subst hr; exact ⟨_, by rw [Result.andThen_ok, run_neq_struct, hrun]; rfl, .v _⟩

theorem binAV_sound {P : Program} {op : BinOp} {t : TypeId} {p q r : AV} {x y : Value} {ox oy : Operand} (hx : VR E p x) (hy : VR E q y) (h : binAV P op t p q = some r) :
    ∃ z, (do eqGuard op t ox oy x y; binOp op t x y : Sem Value).run P E.w = .ok z E.w ∧ VR E r z := by
  unfold binAV at h
  split at h
  · rename_i xs ys
    obtain ⟨ks, hks, h⟩ := Option.bind_eq_some_iff.1 h
    obtain ⟨b, hb, h⟩ := Option.bind_eq_some_iff.1 h
    cases hx with
    | agg _ us hl1 hc1 =>
      cases hy with
      | agg _ vs hl2 hc2 => exact eqOp_sound hks hb h (.agg _ us hl1 hc1) (.agg _ vs hl2 hc2)
  · rename_i k m k' n
    cases hx.v_inv; cases hy.v_inv
    split at h
    · rename_i hk
      subst hk
      rw [Sem.run_bind, eqGuard_int]
      cases op <;> simp only [intBin, Option.some.injEq, reduceCtorEq] at h <;> (try subst h) <;> (try (split at h <;> first | (cases h; done) | (cases h))) <;>
        first
        | exact ⟨_, by simp only [binOp, Op.shift]; rename_i h1; subst h1; rw [if_neg (by decide)]; cases k <;> rfl, .v _⟩
        | exact ⟨_, by simp [binOp, Op.intArith, Op.intCmp, Op.intDiv, *]; rfl, .v _⟩
        | exact ⟨_, by simp [binOp, Op.intArith, Op.intCmp, Op.intDiv, *], .v _⟩
    · cases h
  · cases hx.v_inv; cases hy.v_inv
    rw [Sem.run_bind, eqGuard_str]
    cases op <;> simp only [strBin, Option.some.injEq, reduceCtorEq] at h <;> (try subst h) <;> (try (split at h <;> first | (cases h; done) | (cases h))) <;>
      first
      | exact ⟨_, by simp only [binOp, Op.stringOp, Result.andThen_ok]; rw [if_neg (by assumption)]; rfl, .v _⟩
      | exact ⟨_, by simp [binOp, Op.stringOp]; rfl, .v _⟩
      | exact ⟨_, by simp [binOp, Op.stringOp], .v _⟩
  · cases hx.v_inv; cases hy.v_inv
    rw [Sem.run_bind, eqGuard_bool]
    unfold boolBin at h
    split at h
    · rename_i hu
      cases op <;> simp only [Option.some.injEq, reduceCtorEq] at h <;> subst h <;>
        first
        | exact ⟨_, by simp [binOp, run_equal_bool E.w t _ _ hu], .v _⟩
        | exact ⟨_, by simp [binOp, run_equal_bool E.w t _ _ hu]; rfl, .v _⟩
    · cases h
  · cases h

theorem unAV_sound {P : Program} {op : UnOp} {p r : AV} {x : Value} (hx : VR E p x) (h : unAV op p = some r) : ∃ z, (Op.unary op x).run P E.w = .ok z E.w ∧ VR E r z := by
  unfold unAV at h
  split at h
  · cases hx.v_inv
    cases op <;> simp only [Option.some.injEq, reduceCtorEq] at h
    subst h; exact ⟨_, by simp [Op.unary], .v _⟩
  · cases hx.v_inv
    cases op <;> simp only [Option.some.injEq, reduceCtorEq] at h
    subst h; exact ⟨_, by simp [Op.unary, Op.intArith], .v _⟩
  · cases h

theorem byteAV_all : ∀ (xs : List AV) (ns : List Int), xs.mapM byteAV = some ns → ns.length = xs.length ∧ ∀ i, i < xs.length → xs[i]? = some (.v (.int .u8 (ns.getD i 0)))
  | [], ns, h => by cases h; exact ⟨rfl, fun i hi => by simp at hi⟩
  | x :: xs, ns, h => by
    rw [List.mapM_cons] at h
    cases hx : byteAV x with
    | none => rw [hx] at h; cases h
    | some n =>
      cases hr : xs.mapM byteAV with
      | none => rw [hx, hr] at h; cases h
      | some ms =>
        rw [hx, hr] at h
        have hn : ns = n :: ms := by cases h; rfl
        subst hn
        obtain ⟨h1, h2⟩ := byteAV_all xs ms hr
        refine ⟨by simp [h1], fun i hi => ?_⟩
        cases i with
        | zero =>
          have : x = .v (.int .u8 n) := by
            unfold byteAV at hx
            split at hx
            · cases hx; rfl
            · cases hx
          simp [this]
        | succ i =>
          simp only [List.length_cons] at hi
          simpa using h2 i (by omega)
theorem convAV_sound {P : Program} {s d : TypeId} {p r : AV} {x : Value} (hs : (P.underlying s).isSome = true) (hx : VR E p x) (h : convAV P s d p = some r) :
    ∃ z, (convert s d x).run P E.w = .ok z E.w ∧ VR E r z := by
  unfold convAV at h
  split at h
  · cases hx.v_inv
    obtain ⟨k, hk, rfl⟩ := Option.map_eq_some_iff.1 h
    obtain ⟨ds, hds⟩ := Option.isSome_iff_exists.mp hs
    exact ⟨_, by simp [convert, run_underlying hds, run_underlying (tInt_eq hk), Conv.intToInt], .v _⟩
  · rename_i xs
    split at h
    case isFalse => cases h
    rename_i hc
    obtain ⟨e, he, hse⟩ := Option.bind_eq_some_iff.1 hc.1
    obtain ⟨ns, hns, rfl⟩ := Option.map_eq_some_iff.1 h
    have hsu := tElem_eq he
    have heu := tInt_eq hse
    have hdu := tStr_eq hc.2
    obtain ⟨hlen, hbytes⟩ := byteAV_all xs ns hns
    cases hx with
    | lst _ _ b off cap u hS h1 h2 h3 h4 h5 =>
      refine ⟨_, run_convert_bytes_arg E.w s e hsu heu b off xs.length cap ns hlen (fun i hi => ?_) d hdu, .v _⟩
      have hx := hbytes i hi
      have hc := h3 i (by omega)
      rw [hc]
      have := h5 i _ 0 (.v (.int .u8 (ns.getD i 0))) hx rfl
      rw [Nat.mul_one, Nat.add_zero] at this
      rw [this.v_inv]
    | lstNil =>
      have : ns = [] := List.eq_nil_of_length_eq_zero (by simpa using hlen)
      subst this
      exact ⟨_, by rw [run_convert_bytes_nil E.w s e hsu heu 0 0 d hdu]; rfl, .v _⟩
    | lstNo _ cap ad _ =>
      have : ns = [] := List.eq_nil_of_length_eq_zero (by simpa using hlen)
      subst this
      exact ⟨_, by rw [run_convert_bytes_string E.w s d e _ 0 cap hsu heu hdu, run_bytesToString E.w ad 0 cap [] (by simp [loadCells, loadCellsFrom])]; rfl, .v _⟩
  · cases h

theorem tField_eq {P : Program} {t : TypeId} {f off : Nat} {u : TypeId} (h : tField P t f = some (off, u)) :
    ∃ fs x n, P.underlying t = some (.struct fs) ∧ fs[f]? = some x ∧ x.offset = off ∧ x.type = u ∧ tSize P u = some (n + 1) := by
  unfold tField at h
  split at h
  · rename_i fs hu
    split at h
    · rename_i x hx
      split at h
      · rename_i n hn
        cases h
        exact ⟨fs, x, n, hu, hx, rfl, rfl, hn⟩
      · cases h
    · cases h
  · cases h

theorem fieldAddrAV_sound (hr : Rel G st E a) {t : TypeId} {f : Nat} {p r : AV} {x : Value} (hx : VR E p x) (h : fieldAddrAV G.P st t f p = some r) :
    ∃ z, (Instr.fieldAt t x f).run G.P E.w = .ok z E.w ∧ VR E r z := by
  unfold fieldAddrAV at h
  split at h
  · obtain ⟨⟨off, u⟩, ho, rfl⟩ := Option.map_eq_some_iff.1 h
    obtain ⟨fs, y, n, hu, hy, rfl, rfl, hs⟩ := tField_eq ho
    cases hx with
    | eptr _ _ b off' u' h0 h1 h2 =>
      refine ⟨_, ?_, .eptr _ (_ + y.offset) b off' u' h0 h1 h2⟩
      simp [Instr.fieldAt, run_underlying hu, hy, Instr.sureAddr, fieldPlace, run_sizeOf hs, add_none, Nat.add_assoc]
  · rename_i id k i j
    split at h
    case isFalse => cases h
    rename_i hk
    obtain ⟨⟨off, u⟩, ho, rfl⟩ := Option.map_eq_some_iff.1 h
    obtain ⟨fs, y, n, hu, hy, rfl, rfl, hs⟩ := tField_eq ho
    cases hx with
    | rptr _ _ _ _ _ h1 h2 =>
      have hx := h2 (by rw [hr.ver]; exact hk)
      subst hx
      refine ⟨_, ?_, .rptr id k i (j + y.offset) _ h1 fun _ => rfl⟩
      simp [Instr.fieldAt, run_underlying hu, hy, Instr.sureAddr, fieldPlace, run_sizeOf hs, add_none, Nat.add_assoc]
  · cases h

theorem fieldAV_sound {P : Program} {t : TypeId} {f : Nat} {p r : AV} {x : Value} (hx : VR E p x) (h : fieldAV P t f p = some r) :
    ∃ z, (Instr.field t x f).run P E.w = .ok z E.w ∧ VR E r z := by
  unfold fieldAV at h
  split at h
  · rename_i cs
    split at h
    · rename_i off u ho
      obtain ⟨fs, y, n, hu, hy, rfl, rfl, hs⟩ := tField_eq ho
      split at h
      · rename_i b m hb hm
        split at h
        · rename_i hle
          cases hx with
          | agg _ us hl hc =>
            cases b with
            | true =>
              simp only [mkAV, Option.some.injEq] at h
              subst h
              refine ⟨.agg (us.extract y.offset (y.offset + m)), ?_, .agg _ _ ?_ ?_⟩
              · simp [Instr.field, run_underlying hu, hy, asAgg, part, run_isAgg hb, run_sizeOf hm]
              · simp; omega
              · intro i c hi
                simp only [List.getElem?_take, List.getElem?_drop] at hi
                split at hi
                · rename_i him
                  have := hc _ c hi
                  have hlt : y.offset + i < us.size := by rw [← hl]; exact (List.getElem?_eq_some_iff.1 hi).1
                  have e : (us.extract y.offset (y.offset + m)).getD i undef = us.getD (y.offset + i) undef := by
                    simp [Array.getD_eq_getD_getElem?, Array.getElem?_extract]
                    rw [if_pos (by omega)]
                  rw [e]; exact this
                · cases hi
            | false =>
              simp only [mkAV] at h
              split at h
              · rename_i c hcs
                have hcr : c = r := by simpa using h
                subst hcr
                have hc1 : cs[y.offset]? = some c := by
                  have := congrArg (fun l => l[0]?) hcs
                  simp only [List.getElem?_take, List.getElem?_drop] at this
                  split at this
                  · simpa using this
                  · simp at this
                have hlt : y.offset < us.size := by rw [← hl]; exact (List.getElem?_eq_some_iff.1 hc1).1
                refine ⟨us.getD y.offset undef, ?_, hc _ c hc1⟩
                simp [Instr.field, run_underlying hu, hy, asAgg, part, run_isAgg hb, hlt]
              · cases h
        · cases h
      · cases h
    · cases h
  · cases h

theorem indexAddrAV_sound (hr : Rel G st E a) {t : TypeId} {p q r : AV} {x y : Value} (hx : VR E p x) (hy : VR E q y) (h : indexAddrAV G.P st t p q = some r) :
    ∃ z, (Instr.indexAt t x y).run G.P E.w = .ok z E.w ∧ VR E r z := by
  unfold indexAddrAV at h
  split at h
  · rename_i sz xs k i
    cases hy.v_inv
    split at h
    case isFalse => cases h
    rename_i hc
    obtain ⟨hsz, h0, hlt⟩ := hc
    obtain ⟨e, he, hse⟩ := Option.bind_eq_some_iff.1 hsz
    obtain ⟨c, hc, rfl⟩ := Option.map_eq_some_iff.1 h
    cases hx with
    | lst _ _ b off cap u hS h1 h2 h3 h4 h5 =>
      have hi : i.toNat < xs.length := by omega
      have hcl := h4 _ c hc
      have hmul : i.toNat * sz + sz ≤ xs.length * sz := by rw [← Nat.succ_mul]; exact Nat.mul_le_mul_right _ hi
      refine ⟨.pointer (some ⟨b, off + i.toNat * sz, none⟩), ?_, ?_⟩
      · simp only [Instr.indexAt, asIntOf, Sem.run_bind, Sem.run_pure, Result.andThen_ok, run_underlying (tElem_eq he), Bool.and_false, Bool.false_eq_true, if_false]
        rw [if_pos ⟨h0, hlt⟩]
        simp [run_sizeOf hse, add_none]
      · have := VR.eptr (E := E) c.cells 0 b (off + i.toNat * sz) (fun k => u (i.toNat * sz + k)) hS (fun k hk => by rw [Nat.add_assoc]; exact h3 _ (by omega)) (fun k d hd => h5 _ c k d hc hd)
        simpa using this
    | lstNil => simp at hc
    | lstNo _ _ _ _ => simp at hc
  · rename_i id k k' i
    cases hy.v_inv
    split at h
    case isFalse => cases h
    rename_i hk
    split at h
    · rename_i e' sz xs hh
      split at h
      case isFalse => cases h
      rename_i hc
      obtain ⟨hsz, h0, hlt⟩ := hc
      obtain ⟨e, he, hse⟩ := Option.bind_eq_some_iff.1 hsz
      cases h
      cases hx with
      | ref _ _ _ h1 h2 =>
        have hx := h2 (by rw [hr.ver]; exact hk)
        subst hx
        have hb := hr.blocks id
        rw [hh] at hb
        obtain ⟨hsz', us, hown, hlen, hvs, hblk⟩ := hb
        rcases hown.2 with ⟨hv, hn⟩ | ⟨g, cap, cur, hv, hg⟩
        · omega
        · have hg1 := (hblk g (by rw [hv]; rfl)).1
          refine ⟨.pointer (some ⟨(E.own id).blk, i.toNat * (E.own id).sz + 0, none⟩), ?_, .rptr id k i.toNat 0 _ h1 fun _ => rfl⟩
          rw [hv]
          simp only [Instr.indexAt, asIntOf, Sem.run_bind, Sem.run_pure, Result.andThen_ok, run_underlying (tElem_eq he), Bool.and_false, Bool.false_eq_true, if_false]
          rw [if_pos ⟨h0, hlt⟩]
          simp [run_sizeOf hse, add_none, hsz', hg1]
    · cases h
  · rename_i id k lo hi f k' i
    cases hy.v_inv
    split at h
    case isFalse => cases h
    rename_i hk
    split at h
    · rename_i e' sz xs hh
      split at h
      case isFalse => cases h
      rename_i hc
      obtain ⟨hsz, h0, hlt, hhx⟩ := hc
      obtain ⟨e, he, hse⟩ := Option.bind_eq_some_iff.1 hsz
      cases h
      cases hx with
      | osl _ _ _ _ _ _ h1 h2 =>
        have hx := h2 (by rw [hr.ver]; exact hk)
        subst hx
        have hb := hr.blocks id
        rw [hh] at hb
        obtain ⟨hsz', us, hown, hlen, hvs, hblk⟩ := hb
        rcases hown.2 with ⟨hv, hn⟩ | ⟨g, cap, cur, hv, _, _, hnc, _⟩
        · omega
        · have hg1 := (hblk g (by rw [hv]; rfl)).1
          have hne : ¬ (if f = true then hi else cap) = lo := by
            intro hc
            cases f <;> simp at hc <;> omega
          refine ⟨.pointer (some ⟨(E.own id).blk, (lo + i.toNat) * (E.own id).sz + 0, none⟩), ?_, .rptr id k (lo + i.toNat) 0 _ h1 fun _ => rfl⟩
          rw [hv, subV_slice, if_neg hne]
          simp only [Instr.indexAt, asIntOf, Sem.run_bind, Sem.run_pure, Result.andThen_ok, run_underlying (tElem_eq he), Bool.and_false, Bool.false_eq_true, if_false, Option.map_some]
          rw [if_pos ⟨h0, hlt⟩]
          simp [run_sizeOf hse, add_none, hsz', hg1, Nat.add_mul]
    · cases h
  · rename_i cs j' k i
    cases hy.v_inv
    obtain ⟨⟨n, m⟩, hn, h⟩ := Option.bind_eq_some_iff.1 h
    obtain ⟨e, hu, hse⟩ := tArr_eq hn
    simp only at h
    split at h
    case isFalse => cases h
    rename_i hc
    cases h
    cases hx with
    | eptr _ _ b off u h0 h1 h2 =>
      refine ⟨_, ?_, .eptr _ (j' + i.toNat * m) b off u h0 h1 h2⟩
      simp only [Instr.indexAt, asIntOf, Sem.run_bind, Sem.run_pure, Result.andThen_ok, run_underlying hu, Instr.sureAddr]
      rw [if_pos ⟨hc.1, hc.2⟩]
      simp [run_sizeOf hse, add_none, Nat.add_assoc]
  · rename_i id k n' j' k' i
    cases hy.v_inv
    split at h
    case isFalse => cases h
    rename_i hk
    obtain ⟨⟨n, m⟩, hn, h⟩ := Option.bind_eq_some_iff.1 h
    obtain ⟨e, hu, hse⟩ := tArr_eq hn
    simp only at h
    split at h
    case isFalse => cases h
    rename_i hc
    cases h
    cases hx with
    | rptr _ _ _ _ _ h1 h2 =>
      have hx := h2 (by rw [hr.ver]; exact hk)
      subst hx
      refine ⟨_, ?_, .rptr id k n' (j' + i.toNat * m) _ h1 fun _ => rfl⟩
      simp only [Instr.indexAt, asIntOf, Sem.run_bind, Sem.run_pure, Result.andThen_ok, run_underlying hu, Instr.sureAddr]
      rw [if_pos ⟨hc.1, hc.2⟩]
      simp [run_sizeOf hse, add_none, Nat.add_assoc]
  · cases h

theorem indexAV_sound {P : Program} {t : TypeId} {p q r : AV} {x y : Value} (hx : VR E p x) (hy : VR E q y) (h : indexAV P t p q = some r) :
    ∃ z, (Instr.index t x y).run P E.w = .ok z E.w ∧ VR E r z := by
  unfold indexAV at h
  split at h
  · cases hx.v_inv; cases hy.v_inv
    split at h
    case isFalse => cases h
    rename_i hc
    obtain ⟨b, hb, rfl⟩ := Option.map_eq_some_iff.1 h
    refine ⟨_, ?_, .v _⟩
    simp [Instr.index, asIntOf, run_underlying (tStr_eq hc.1), hc.2, hb]
  · cases h

theorem lenAV_sound (hr : Rel G st E a) {t ty : TypeId} {p r : AV} {x : Value} (hx : VR E p x) (h : lenAV G.P st t p = some r) :
    ∃ z, (Builtin.len_ #[t] ty #[x]).run G.P E.w = .ok z E.w ∧ VR E r z := by
  unfold lenAV at h
  split at h
  · obtain ⟨e, he, rfl⟩ := Option.map_eq_some_iff.1 h
    cases hx with
    | lst _ _ b off cap u hS h1 h2 h3 h4 h5 => exact ⟨_, by simp [Builtin.len_, run_underlying (tElem_eq he)]; rfl, .v _⟩
    | lstNil => exact ⟨_, by simp [Builtin.len_, run_underlying (tElem_eq he)]; rfl, .v _⟩
    | lstNo _ _ _ _ => exact ⟨_, by simp [Builtin.len_, run_underlying (tElem_eq he)]; rfl, .v _⟩
  · rename_i id k
    split at h
    case isFalse => cases h
    rename_i hk
    split at h
    · rename_i e' sz xs hh
      obtain ⟨e, he, rfl⟩ := Option.map_eq_some_iff.1 h
      cases hx with
      | ref _ _ _ h1 h2 =>
        have hx := h2 (by rw [hr.ver]; exact hk)
        subst hx
        have hb := hr.blocks id
        rw [hh] at hb
        obtain ⟨hsz', us, hown, hlen, hvs, hblk⟩ := hb
        rcases hown.2 with ⟨hv, hn⟩ | ⟨g, cap, cur, hv, hg⟩
        · rw [hv, hn]; exact ⟨_, by simp [Builtin.len_, run_underlying (tElem_eq he)]; rfl, .v _⟩
        · rw [hv]; exact ⟨_, by simp [Builtin.len_, run_underlying (tElem_eq he)]; rfl, .v _⟩
    · rename_i es clk hh
      obtain ⟨⟨kt, et⟩, he, rfl⟩ := Option.map_eq_some_iff.1 h
      cases hx with
      | ref _ _ _ h1 h2 =>
        have hx := h2 (by rw [hr.ver]; exact hk)
        subst hx
        have hb := hr.blocks id
        rw [hh] at hb
        obtain ⟨g1, g2, _⟩ := hb
        rw [g2]
        exact ⟨_, by simp [Builtin.len_, run_underlying (tMap_eq he), MapKept.run_getObj_map g1]; rfl, .v _⟩
    · cases h
  · rename_i id k lo hi f
    split at h
    case isFalse => cases h
    rename_i hk
    split at h
    · rename_i e' sz xs hh
      split at h
      case isFalse => cases h
      rename_i hb0
      obtain ⟨e, he, rfl⟩ := Option.map_eq_some_iff.1 h
      cases hx with
      | osl _ _ _ _ _ _ h1 h2 =>
        have hx := h2 (by rw [hr.ver]; exact hk)
        subst hx
        have hb := hr.blocks id
        rw [hh] at hb
        obtain ⟨hsz', us, hown, hlen, hvs, hblk⟩ := hb
        rcases hown.2 with ⟨hv, hn⟩ | ⟨g, cap, cur, hv, hg⟩
        · rw [hv, subV_slice]; exact ⟨_, by simp [Builtin.len_, run_underlying (tElem_eq he)]; rfl, .v _⟩
        · rw [hv, subV_slice]; exact ⟨_, by simp [Builtin.len_, run_underlying (tElem_eq he)]; rfl, .v _⟩
    · cases h
  · obtain ⟨e, he, rfl⟩ := Option.map_eq_some_iff.1 h
    cases hx.v_inv
    exact ⟨_, by simp [Builtin.len_, run_underlying (tElem_eq he)]; rfl, .v _⟩
  · cases hx.v_inv
    split at h
    case isFalse => cases h
    rename_i hc
    cases h
    exact ⟨_, by simp [Builtin.len_, run_underlying (tStr_eq hc)]; rfl, .v _⟩
  · cases h

theorem boundAV_sound (hr : Rel G st E a) {d b : Nat} {x : Option Operand} (h : boundAV st d x = some b) :
    match x with
    | none => b = d
    | some o => ∃ k i, a.eval o = .int k i ∧ 0 ≤ i ∧ b = i.toNat := by
  unfold boundAV at h
  cases x with
  | none => simpa using h.symm
  | some o =>
    simp only at h ⊢
    have hv := hr.ev o
    split at h
    · rename_i k i ho
      rw [ho] at hv
      split at h
      · rename_i h0; cases h; exact ⟨k, i, hv.v_inv, h0, rfl⟩
      · cases h
    · cases h

theorem run_sliceBound_in {P : Program} (k : IntKind) (i : Int) (y : Nat) (code : BoundsCode) (w : World) (h0 : 0 ≤ i) (h1 : i.toNat ≤ y) : (Instr.sliceBound (.int k i) y code).run P w = .ok i.toNat w := by
  simp only [Instr.sliceBound, asIntOf, Sem.run_bind, Sem.run_pure, Result.andThen_ok]
  rw [if_pos ⟨h0, by omega⟩]
  rfl

/-- The bounds of a slice expression, where they lie within the capacity. -/
theorem run_sliceBounds_ok (hr : Rel G st E a) {isSlice : Bool} {len cap l h : Nat} {lo hi mx : Option Operand} (hl : boundAV st 0 lo = some l) (hh : boundAV st len hi = some h) (h1 : l ≤ h) (h2 : h ≤ len) (h3 : len ≤ cap)
    (hm : mx = none ∨ ∃ m, mx ≠ none ∧ hi ≠ none ∧ boundAV st 0 mx = some m ∧ h ≤ m ∧ m ≤ len) :
    ∃ m, (Instr.sliceBounds isSlice len cap (lo.map a.eval) (hi.map a.eval) (mx.map a.eval)).run G.P E.w = .ok (l, h, m) E.w ∧ h ≤ m ∧ m ≤ cap ∧ (mx ≠ none → boundAV st 0 mx = some m) ∧ (mx = none → m = cap) := by
  have hl' := boundAV_sound hr hl
  have hh' := boundAV_sound hr hh
  rcases hm with rfl | ⟨m, hnm, hne, hmx, hm1, hm2⟩
  · refine ⟨cap, ?_, by omega, Nat.le_refl _, fun h => absurd rfl h, fun _ => rfl⟩
    cases lo with
    | none =>
      simp only at hl'; subst hl'
      cases hi with
      | none => simp only at hh'; subst hh'; simp [Instr.sliceBounds]
      | some o =>
        obtain ⟨k, i, ho, h0, rfl⟩ := hh'
        simp [Instr.sliceBounds, ho, run_sliceBound_in k i cap _ E.w h0 (by omega)]
    | some o' =>
      obtain ⟨k', i', ho', h0', rfl⟩ := hl'
      cases hi with
      | none => simp only at hh'; subst hh'; simp [Instr.sliceBounds, ho', run_sliceBound_in k' i' _ _ E.w h0' h1]
      | some o =>
        obtain ⟨k, i, ho, h0, rfl⟩ := hh'
        simp [Instr.sliceBounds, ho, ho', run_sliceBound_in k i cap _ E.w h0 (by omega), run_sliceBound_in k' i' _ _ E.w h0' h1]
  · refine ⟨m, ?_, hm1, by omega, fun _ => hmx, fun h => absurd h hnm⟩
    have hm' := boundAV_sound hr hmx
    cases mx with
    | none => exact absurd rfl hnm
    | some om =>
      obtain ⟨km, im, hom, h0m, rfl⟩ := hm'
      cases hi with
      | none => exact absurd rfl hne
      | some o =>
        obtain ⟨k, i, ho, h0, rfl⟩ := hh'
        cases lo with
        | none => simp only at hl'; subst hl'; simp [Instr.sliceBounds, ho, hom, run_sliceBound_in km im cap _ E.w h0m (by omega), run_sliceBound_in k i _ _ E.w h0 hm1]
        | some o' =>
          obtain ⟨k', i', ho', h0', rfl⟩ := hl'
          simp [Instr.sliceBounds, ho, ho', hom, run_sliceBound_in km im cap _ E.w h0m (by omega), run_sliceBound_in k i _ _ E.w h0 hm1, run_sliceBound_in k' i' _ _ E.w h0' h1]

theorem run_slice_lst {P : Program} {t e : TypeId} {sz : Nat} (he : tElem P t = some e) (hsz : tSize P e = some sz) {ad : Option Addr} {len cap l h m : Nat} {lo hi mx : Option Value} {w : World}
    (hb : (Instr.sliceBounds true len cap lo hi mx).run P w = .ok (l, h, m) w) :
    (Instr.sliceAt t (.slice ad len cap) lo hi mx).run P w = .ok (.slice (if m = l then ad else ad.map (·.add (l * sz))) (h - l) (m - l)) w := by
  simp [Instr.sliceAt, Instr.slice, run_underlying (tElem_eq he), hb, run_sizeOf hsz]

theorem VR.lst_sub {sz : Nat} {xs : List AV} {b off cap : Nat} {l h m : Nat} (hv : VR E (.lst sz xs) (.slice (some ⟨b, off, none⟩) xs.length cap)) (h1 : l ≤ h) (h2 : h ≤ xs.length) (h3 : h ≤ m) (h4 : m ≤ cap) :
    VR E (.lst sz ((xs.drop l).take (h - l))) (.slice (if m = l then some ⟨b, off, none⟩ else (some ⟨b, off, none⟩ : Option Addr).map (·.add (l * sz))) (h - l) (m - l)) := by
  cases hv with
  | lstNo _ _ _ hc =>
    have h2' : h = 0 := by simpa using h2
    subst h2'
    have : l = 0 := by omega
    subst this
    simp only [List.drop_nil, List.take_nil, Nat.sub_self]
    split
    · exact .lstNo _ _ _ (by omega)
    · exact .lstNo _ _ _ (by omega)
  | lst _ _ _ _ _ u hS c1 c2 c3 c4 c5 =>
    have hlen : ((xs.drop l).take (h - l)).length = h - l := by simp; omega
    split
    · have hl : h - l = 0 := by omega
      have hnil : (xs.drop l).take (h - l) = [] := by rw [hl]; simp
      rw [hnil, hl]
      exact .lst sz [] b off _ u hS (by simp) (by omega) (by simp) (by simp) (by simp)
    · simp only [Option.map_some, add_none]
      have := VR.lst (E := E) sz ((xs.drop l).take (h - l)) b (off + l * sz) (m - l) (fun k => u (l * sz + k)) hS (by rw [hlen]; omega) (by omega)
        (fun k hk => by
          rw [hlen] at hk
          rw [Nat.add_assoc]
          refine c3 _ ?_
          have : (h - l) * sz + l * sz ≤ xs.length * sz := by rw [← Nat.add_mul]; exact Nat.mul_le_mul_right _ (by omega)
          omega)
        (fun i x hx => by
          simp only [List.getElem?_take, List.getElem?_drop] at hx
          split at hx
          · exact c4 _ x hx
          · cases hx)
        (fun i x j c hx hc => by
          simp only [List.getElem?_take, List.getElem?_drop] at hx
          split at hx
          · have := c5 _ x j c hx hc
            rwa [Nat.add_mul, Nat.add_assoc] at this
          · cases hx)
      rwa [hlen] at this

theorem sliceAV_sound (hr : Rel G st E a) {t : TypeId} {p r : AV} {x : Value} {lo hi mx : Option Operand} (hx : VR E p x) (h : sliceAV G.P st t lo hi mx p = some r) :
    ∃ z, (Instr.sliceAt t x (lo.map a.eval) (hi.map a.eval) (mx.map a.eval)).run G.P E.w = .ok z E.w ∧ VR E r z := by
  unfold sliceAV at h
  split at h
  · rename_i s
    cases hx.v_inv
    split at h
    case isFalse => cases h
    rename_i hc
    split at h
    · rename_i l h' hl hh
      split at h
      case isFalse => cases h
      rename_i hb
      cases h
      obtain ⟨hs, hm⟩ := hc
      have hm : mx = none := by simpa using hm
      subst hm
      obtain ⟨m, hrun, _, _, _⟩ := run_sliceBounds_ok hr (isSlice := false) (cap := s.size) (mx := none) hl hh hb.1 hb.2 (Nat.le_refl _) (.inl rfl)
      refine ⟨_, ?_, .v _⟩
      simp only [Option.map_none] at hrun
      simp [Instr.sliceAt, Instr.slice, run_underlying (tStr_eq hs), hrun]
    · cases h
  · rename_i sz xs
    split at h
    case isFalse => cases h
    rename_i hsz
    obtain ⟨e, he, hse⟩ := Option.bind_eq_some_iff.1 hsz
    split at h
    · rename_i l h' hl hh
      split at h
      case isFalse => cases h
      rename_i hb
      have key : (mx = none ∨ ∃ m, mx ≠ none ∧ hi ≠ none ∧ boundAV st 0 mx = some m ∧ h' ≤ m ∧ m ≤ xs.length) ∧ ∃ f : Prop, ∃ _ : Decidable f, (f → mx ≠ none ∧ boundAV st 0 mx = some h') ∧ r = if f then .full sz ((xs.drop l).take (h' - l)) else .lst sz ((xs.drop l).take (h' - l)) := by
        cases mx with
        | none => simp only [Option.some.injEq] at h; exact ⟨.inl rfl, False, inferInstance, fun h => h.elim, by simpa using h.symm⟩
        | some om =>
          cases hi with
          | none => simp at h
          | some oh =>
            cases hbm : boundAV st 0 (some om) with
            | none => simp [hbm] at h
            | some m =>
              simp only [hbm] at h
              split at h
              case isFalse => cases h
              rename_i hle
              cases h
              exact ⟨.inr ⟨m, by simp, by simp, rfl, hle.1, hle.2⟩, m = h', inferInstance, fun he => ⟨by simp, by rw [he]⟩, rfl⟩
      obtain ⟨hm, f, _, hf, rfl⟩ := key
      have wrap : ∀ (ad : Option Addr) (m : Nat), (mx ≠ none → boundAV st 0 mx = some m) → VR E (.lst sz ((xs.drop l).take (h' - l))) (.slice ad (h' - l) (m - l)) → VR E (if f then .full sz ((xs.drop l).take (h' - l)) else .lst sz ((xs.drop l).take (h' - l))) (.slice ad (h' - l) (m - l)) := by
        intro ad m hmm hv
        split
        case isFalse => exact hv
        case isTrue hft =>
          obtain ⟨h1, h2⟩ := hf hft
          have := hmm h1
          rw [h2] at this
          cases this
          have hl' : ((xs.drop l).take (h' - l)).length = h' - l := by rw [List.length_take, List.length_drop]; have := hb.1; have := hb.2; omega
          have k := VR.full (E := E) sz ((xs.drop l).take (h' - l)) ad
          rw [hl'] at k
          exact k hv
      cases hx with
      | lst _ _ b off cap u hS c1 c2 c3 c4 c5 =>
        obtain ⟨m, hrun, hm1, hm2, hm3, _⟩ := run_sliceBounds_ok hr (isSlice := true) (cap := cap) hl hh hb.1 hb.2 c1 hm
        exact ⟨_, run_slice_lst he hse hrun, wrap _ m hm3 <| VR.lst_sub (.lst _ _ b off cap u hS c1 c2 c3 c4 c5) hb.1 hb.2 hm1 hm2⟩
      | lstNil =>
        obtain ⟨m, hrun, hm1, hm2, hm3, _⟩ := run_sliceBounds_ok hr (isSlice := true) (cap := 0) hl hh hb.1 hb.2 (Nat.le_refl _) hm
        refine ⟨_, run_slice_lst he hse hrun, wrap _ m hm3 ?_⟩
        have : l = 0 := by have := hb.1; have := hb.2; simp at *; omega
        subst this
        have : h' = 0 := by have := hb.2; simpa using this
        subst this
        have : m = 0 := by omega
        subst this
        simpa using VR.lstNil (E := E) sz
      | lstNo _ cap ad hcap =>
        obtain ⟨m, hrun, hm1, hm2, hm3, _⟩ := run_sliceBounds_ok hr (isSlice := true) (cap := cap) hl hh hb.1 hb.2 (Nat.zero_le _) hm
        refine ⟨_, run_slice_lst he hse hrun, wrap _ m hm3 ?_⟩
        have : l = 0 := by have := hb.1; have := hb.2; simp at *; omega
        subst this
        have : h' = 0 := by have := hb.2; simpa using this
        subst this
        simp only [List.drop_nil, List.take_nil, Nat.sub_self, Option.map_some]
        split
        · exact .lstNo _ _ _ (by omega)
        · exact .lstNo _ _ _ (by omega)
    · cases h
  · rename_i id k
    split at h
    case isFalse => cases h
    rename_i hk
    split at h
    · rename_i e0 sz xs hh'
      split at h
      case isFalse => cases h
      rename_i hsz
      obtain ⟨e, he, hse⟩ := Option.bind_eq_some_iff.1 hsz
      split at h
      · rename_i l h' hl hh
        split at h
        case isFalse => cases h
        rename_i hb
        have key : (mx = none ∨ ∃ m, mx ≠ none ∧ hi ≠ none ∧ boundAV st 0 mx = some m ∧ h' ≤ m ∧ m ≤ xs.length) ∧ ∃ f : Bool, (f = true → mx ≠ none ∧ boundAV st 0 mx = some h') ∧ (f = false → mx = none) ∧ r = .osl id k l h' f := by
          cases mx with
          | none => simp only [Option.some.injEq] at h; exact ⟨.inl rfl, false, fun h => (by cases h), fun _ => rfl, h.symm⟩
          | some om =>
            cases hi with
            | none => simp at h
            | some oh =>
              cases hbm : boundAV st 0 (some om) with
              | none => simp [hbm] at h
              | some m =>
                simp only [hbm] at h
                split at h
                case isFalse => cases h
                rename_i hmh
                cases h
                subst hmh
                exact ⟨.inr ⟨m, by simp, by simp, rfl, Nat.le_refl _, hb.2⟩, true, fun _ => ⟨by simp, rfl⟩, fun h => (by cases h), rfl⟩
        obtain ⟨hm, f, hf1, hf2, rfl⟩ := key
        cases hx with
        | ref _ _ _ h1 h2 =>
          have hx := h2 (by rw [hr.ver]; exact hk)
          subst hx
          have hbk := hr.blocks id
          rw [hh'] at hbk
          obtain ⟨hszo, us, hown, hlen, hvs, hblk⟩ := hbk
          have fin : ∀ (ad : Option Addr) (cap : Nat), (E.own id).val = .slice ad xs.length cap → xs.length ≤ cap → ∃ z, (Instr.sliceAt t (E.own id).val (lo.map a.eval) (hi.map a.eval) (mx.map a.eval)).run G.P E.w = .ok z E.w ∧ VR E (.osl id k l h' f) z := by
            intro ad cap hval hcap
            obtain ⟨m, hrun, hm1, hm2, hm3, hm4⟩ := run_sliceBounds_ok hr (isSlice := true) (cap := cap) hl hh hb.1 hb.2 hcap hm
            refine ⟨_, by rw [hval]; exact run_slice_lst he hse hrun, .osl _ _ _ _ _ _ h1 fun _ => ?_⟩
            rw [hval, hszo]
            cases f with
            | true =>
              have h3 := hm3 (hf1 rfl).1
              rw [(hf1 rfl).2] at h3
              cases h3
              rfl
            | false =>
              have h4 := hm4 (hf2 rfl)
              subst h4
              rfl
          rcases hown.2 with ⟨hv, hn⟩ | ⟨g, cap, cur, hv, _, _, hn, _⟩
          · exact fin none 0 (by rw [hv, hn]) (by omega)
          · exact fin _ cap hv hn
      · cases h
    · cases h
  · rename_i cs j'
    obtain ⟨⟨n, m1⟩, hn, hb0⟩ := Option.bind_eq_some_iff.1 h
    clear h
    obtain ⟨e, hu, hse⟩ := tArr_eq hn
    simp only at hb0
    split at hb0
    case isFalse => cases hb0
    rename_i hc
    obtain ⟨hm1, hmx, hjn, hnl, hall⟩ := hc
    subst hm1
    have hmx : mx = none := by simpa using hmx
    subst hmx
    split at hb0
    · rename_i l h' hl hh
      split at hb0
      case isFalse => cases hb0
      rename_i hb
      cases hb0
      obtain ⟨m, hrun, hm1, hm2, _⟩ := run_sliceBounds_ok hr (isSlice := false) (cap := n) (mx := none) hl hh hb.1 hb.2 (Nat.le_refl _) (.inl rfl)
      cases hx with
      | eptr _ _ b off u h0 h1 h2 =>
        refine ⟨.slice (some (if m = l then ⟨b, off + j', none⟩ else (⟨b, off + j', none⟩ : Addr).add (l * 1))) (h' - l) (m - l), ?_, ?_⟩
        · simp only [Option.map_none] at hrun
          simp [Instr.sliceAt, run_underlying hu, Instr.sureAddr, hrun, run_sizeOf hse]
        · have hlen : ((cs.drop (j' + l)).take (h' - l)).length = h' - l := by simp; omega
          split
          · have hl : h' - l = 0 := by omega
            have hnil : (cs.drop (j' + l)).take (h' - l) = [] := by rw [hl]; simp
            rw [hnil, hl]
            exact .lstNo _ _ _ (by omega)
          · rw [add_none, Nat.mul_one]
            have hv : ∀ (i : Nat) x, ((cs.drop (j' + l)).take (h' - l))[i]? = some x → cs[j' + l + i]? = some x ∧ ∃ z, x = .v z := fun i x hx => by
              simp only [List.getElem?_take, List.getElem?_drop] at hx
              split at hx
              · refine ⟨hx, ?_⟩
                have := List.all_eq_true.1 hall x (List.mem_of_getElem? hx)
                unfold isV at this
                split at this
                · exact ⟨_, rfl⟩
                · cases this
              · cases hx
            have := VR.lst (E := E) 1 ((cs.drop (j' + l)).take (h' - l)) b (off + j' + l) (m - l) (fun k => u (j' + l + k)) h0 (by rw [hlen]; omega) (by omega)
              (fun k hk => by
                rw [hlen] at hk
                rw [show off + j' + l + k = off + (j' + l + k) by omega]
                exact h1 _ (by omega))
              (fun i x hx => by obtain ⟨_, z, rfl⟩ := hv i x hx; rfl)
              (fun i x j c hx hc => by
                obtain ⟨h3, z, rfl⟩ := hv i x hx
                cases j with
                | zero =>
                  have : c = .v z := by simpa [AV.cells] using hc.symm
                  subst this
                  rw [Nat.mul_one, Nat.add_zero]
                  exact h2 _ _ h3
                | succ j => simp [AV.cells] at hc)
            rwa [hlen] at this
    · cases hb0
  · cases h

/-- Every operation that only computes or reads. -/
theorem minAV_sound {P : Program} {ats : Array TypeId} {ty : TypeId} {p q r : AV} {x y : Value} (hx : VR E p x) (hy : VR E q y) (h : minAV p q = some r) : ∃ z, (Builtin.min_ ats ty #[x, y]).run P E.w = .ok z E.w ∧ VR E r z := by
  unfold minAV at h
  split at h
  · cases hx.v_inv; cases hy.v_inv; cases h
    exact ⟨_, run_min_int2 _ _ _ _ _ _ _, .v _⟩
  · cases h
theorem maxAV_sound {P : Program} {ats : Array TypeId} {ty : TypeId} {p q r : AV} {x y : Value} (hx : VR E p x) (hy : VR E q y) (h : maxAV p q = some r) : ∃ z, (Builtin.max_ ats ty #[x, y]).run P E.w = .ok z E.w ∧ VR E r z := by
  unfold maxAV at h
  split at h
  · cases hx.v_inv; cases hy.v_inv; cases h
    exact ⟨_, run_max_int2 _ _ _ _ _ _ _, .v _⟩
  · cases h

theorem findNow_int (n : Int) : ∀ (l : List MapEntry) (i : Nat), l.all keyInt = true → Instr.findNow (.int .i64) (.int .i64 n) l i = some (findI n l i)
  | [], i, _ => rfl
  | e :: l, i, h => by
    rw [List.all_cons, Bool.and_eq_true] at h
    have hk := h.1
    unfold keyInt at hk
    split at hk
    · rename_i a ha
      have hs : Instr.sameNow (.int .i64) (.int .i64 n) e.key = some (n == a) := by rw [ha]; simp [Instr.sameNow]
      have hi : keyIs n e = (n == a) := by unfold keyIs; rw [ha]
      show (match Instr.sameNow (.int .i64) (.int .i64 n) e.key with
        | some true => some (some (i, e.val))
        | some false => Instr.findNow (.int .i64) (.int .i64 n) l (i + 1)
        | none => none) = some (if keyIs n e = true then some (i, e.val) else findI n l (i + 1))
      rw [hs, hi]
      cases n == a with
      | true => rfl
      | false => exact findNow_int n l (i + 1) h.2
    · cases hk
theorem run_zeroValue0 {P : Program} {t : TypeId} {z : Value} (h : tZero P t = some z) (w : World) : (zeroValue t).run P w = .ok z w := by
  unfold tZero at h
  cases hi : P.info? t with
  | none => simp [hi] at h
  | some i => have : i.zero = some z := by simpa [hi] using h
              simp [zeroValue, typeInfo, hi, this]
theorem run_checkKey_int {P : Program} {kt : TypeId} (hk : P.underlying kt = some (.int .i64)) (b : Bool) (n : Int) (w : World) : (Instr.checkKey b 10000 kt (.int .i64 n)).run P w = .ok () w := by
  exact MapKept.run_checkKey hk (by trivial) b 9999
theorem run_findKey_int {P : Program} {kt : TypeId} (hk : P.underlying kt = some (.int .i64)) {es : Array MapEntry} (h : intM es = true) (n : Int) (w : World) : (Instr.findKey kt (.int .i64 n) es.toList).run P w = .ok (findI n es.toList 0) w := by
  simp [Instr.findKey, run_underlying hk, findNow_int n es.toList 0 h]
theorem keyQ_val {E : Env} {q : AV} {y : Value} {k : KeyQ} (hy : VR E q y) (h : keyQ q = some k) : y = k.val := by
  unfold keyQ at h
  split at h
  · cases hy.v_inv; cases h; rfl
  · cases h
    cases hy with
    | agg _ us hl hc =>
      have h0 := (hc 0 _ rfl).v_inv
      have h1 := (hc 1 _ rfl).v_inv
      have hsz : us.size = 2 := by simpa using hl.symm
      obtain ⟨l⟩ := us
      match l, hsz with
      | [x, y], _ => simp at h0 h1; subst h0; subst h1; rfl
  · cases h
theorem two_fields {P : Program} {t : TypeId} (h : tFlat P t = some [1, 1]) : ∃ f g : Field, P.underlying t = some (.struct #[f, g]) ∧ f.offset = 0 ∧ g.offset = 1 ∧ P.underlying f.type = some .string ∧ P.underlying g.type = some .string ∧ f.name ≠ "_" ∧ g.name ≠ "_" ∧ P.stoodInHeld t = false := by
  unfold tFlat at h
  split at h
  case h_2 => cases h
  rename_i fs hu
  split at h
  case isFalse => cases h
  rename_i hc
  obtain ⟨h1, h2, h3, h4⟩ := hc
  obtain ⟨l⟩ := fs
  have kind : ∀ {u : TypeId}, fKind P u = some 1 → P.underlying u = some .string := fun {u} hk => by
    unfold fKind at hk; split at hk <;> first | assumption | cases hk
  match l, h, h3, h4 with
  | [], h, _, _ => simp at h
  | [f], h, _, _ => simp [List.mapM_cons, Option.bind_eq_some_iff] at h
  | [f, g], h, h3, h4 =>
    simp only [List.mapM_cons, List.mapM_nil, Option.bind_eq_bind, Option.bind_eq_some_iff, Option.pure_def, Option.some.injEq] at h
    obtain ⟨a, ha, b, ⟨c, hc, d, hd, rfl⟩, h⟩ := h
    cases hd
    cases h
    simp [List.range'_succ] at h3 h4
    exact ⟨f, g, hu, h3.1, h3.2, kind ha, kind hc, h4.1, h4.2, h1⟩
  | f :: g :: x :: l, h, _, _ =>
    simp only [List.mapM_cons, Option.bind_eq_bind, Option.bind_eq_some_iff, Option.pure_def, Option.some.injEq] at h
    obtain ⟨a, ha, b, ⟨c, hc, d, ⟨y, hy, z, hz, rfl⟩, rfl⟩, h⟩ := h
    simp at h
theorem run_checkKey_Q {P : Program} {kt : TypeId} {k : KeyQ} (hk : k.okT P kt = true) (b : Bool) (w : World) : (Instr.checkKey b 10000 kt k.val).run P w = .ok () w := by
  cases k with
  | txt s => exact MapKept.run_checkKey (tStr_eq hk) (by trivial) b 9999
  | two a c =>
    simp only [KeyQ.okT, beq_iff_eq] at hk
    obtain ⟨f, g, hu, hf, hg, kf, kg, nf, ng, _⟩ := two_fields hk
    have h1 : fKind P f.type = some 1 := by unfold fKind; rw [kf]
    have h2 : fKind P g.type = some 1 := by unfold fKind; rw [kg]
    have p1 := run_part_one h1 #[.string a, .string c] 0 (by simp) w
    have p2 := run_part_one h2 #[.string a, .string c] 1 (by simp) w
    have c1 := MapKept.run_checkKey (P := P) (w := w) (k := .string a) kf (by trivial) b 9998
    have c2 := MapKept.run_checkKey (P := P) (w := w) (k := .string c) kg (by trivial) b 9998
    rw [show (10000 : Nat) = 9998 + 1 + 1 from rfl]
    generalize (9998 : Nat) = N at c1 c2
    rw [Instr.checkKey]
    simp [KeyQ.val, run_underlying hu, nf, ng, hf, hg, p1, p2, c1, c2]
theorem is_txt (s x : ByteArray) : (s == x) = (s.toList == x.toList) := beq_toListBytes ..
theorem findNow_Q (s : ByteArray) : ∀ (l : List MapEntry) (i : Nat), (l.all fun e => (KeyQ.txt s).like e.key) = true → Instr.findNow .string (.string s) l i = some (findQ (.txt s) l i)
  | [], i, _ => rfl
  | e :: l, i, h => by
    rw [List.all_cons, Bool.and_eq_true] at h
    have hk := h.1
    unfold KeyQ.like at hk
    split at hk
    · rename_i s' x hs hx
      have hs' : Instr.sameNow .string (.string s) e.key = some (s == x) := by rw [hx]; rfl
      have hi : (KeyQ.txt s).is e.key = (s == x) := by rw [hx, is_txt]; rfl
      show (match Instr.sameNow .string (.string s) e.key with
        | some true => some (some (i, e.val))
        | some false => Instr.findNow .string (.string s) l (i + 1)
        | none => none) = some (if (KeyQ.txt s).is e.key = true then some (i, e.val) else findQ (.txt s) l (i + 1))
      rw [hs', hi]
      cases s == x with
      | true => rfl
      | false => exact findNow_Q s l (i + 1) h.2
    · rename_i hs _; cases hs
    · cases hk
theorem findAsk_Q {P : Program} {kt : TypeId} (hk : tFlat P kt = some [1, 1]) (a c : ByteArray) (w : World) : ∀ (l : List MapEntry) (i : Nat), (l.all fun e => (KeyQ.two a c).like e.key) = true → (Instr.findAsking kt (KeyQ.two a c).val l i).run P w = .ok (findQ (.two a c) l i) w
  | [], i, _ => by simp [Instr.findAsking, findQ]
  | e :: l, i, h => by
    rw [List.all_cons, Bool.and_eq_true] at h
    have hlk := h.1
    have ih := findAsk_Q hk a c w l (i + 1) h.2
    obtain ⟨f, g, hu, hf, hg, kf, kg, nf, ng, hst⟩ := two_fields hk
    have h1 : fKind P f.type = some 1 := by unfold fKind; rw [kf]
    have h2 : fKind P g.type = some 1 := by unfold fKind; rw [kg]
    have hkey : ∃ x y, e.key = .agg #[.string x, .string y] := by
      unfold KeyQ.like at hlk
      split at hlk
      · rename_i h' _; cases h'
      · rename_i us hq hus
        split at hlk
        · rename_i x y hxy
          exact ⟨x, y, by rw [hus]; congr 1; rw [← Array.toList_inj]; exact hxy⟩
        · cases hlk
      · cases hlk
    obtain ⟨x, y, hkey⟩ := hkey
    have heq : (Op.equal kt (KeyQ.two a c).val e.key).run P w = .ok ((a.toList == x.toList) && (c.toList == y.toList)) w := by
      rw [hkey]
      show (Op.equalIn 10000 kt (.agg #[.string a, .string c]) (.agg #[.string x, .string y])).run P w = _
      rw [show (10000 : Nat) = 9999 + 1 from rfl, run_equalIn_struct w 9999 kt _ _ (by simp [Program.fieldsOf, hu]) hst]
      have hfo : P.fieldsOf kt = #[f, g] := by simp [Program.fieldsOf, hu]
      rw [hfo]
      exact eqFields_run (E := ⟨fun _ => 0, fun _ => ⟨.bool true, 0, 0⟩, fun _ => False, w⟩) 9998 #[.string a, .string c] #[.string x, .string y] [f, g] 0 [1, 1] [.v (.string a), .v (.string c)] [.v (.string x), .v (.string y)] _ (by simp [hf, hg, List.range'_succ]) (by simp [nf, ng]) (by simp [h1, h2])
        (fun j p hj => by match j, hj with
          | 0, hj => cases hj; exact ⟨by simp, .v _⟩
          | 1, hj => cases hj; exact ⟨by simp, .v _⟩) (fun j p hj => by match j, hj with
          | 0, hj => cases hj; exact ⟨by simp, .v _⟩
          | 1, hj => cases hj; exact ⟨by simp, .v _⟩) (by simp [eqKinds])
    have hi : (KeyQ.two a c).is e.key = ((a.toList == x.toList) && (c.toList == y.toList)) := by rw [hkey]; rfl
    unfold findQ
    rw [hi]
    simp only [Instr.findAsking, Sem.run_bind, heq, Result.andThen_ok]
    cases hb : (a.toList == x.toList) && (c.toList == y.toList) with
    | true => simp
    | false => simpa using ih
theorem run_findKey_Q {P : Program} {kt : TypeId} {k : KeyQ} (hk : k.okT P kt = true) {es : Array MapEntry} (h : qM es k = true) (w : World) : (Instr.findKey kt k.val es.toList).run P w = .ok (findQ k es.toList 0) w := by
  cases k with
  | txt s => simp [Instr.findKey, run_underlying (tStr_eq hk), KeyQ.val, findNow_Q s es.toList 0 h]
  | two a c =>
    simp only [KeyQ.okT, beq_iff_eq] at hk
    obtain ⟨f, g, hu, _⟩ := two_fields hk
    rw [run_findKey_eq w (by rw [hu])]
    exact findAsk_Q hk a c w es.toList 0 h
theorem lookAV_sound {P : Program} {w : World} {t : TypeId} {ok : Bool} {es : Array MapEntry} {clk r : Nat} {q a : AV} {y : Value} (hb : w.heap[r]? = some (.map es clk)) (hy : VR E q y) (h : lookAV P t ok es q = some a) :
    ∃ z, (Instr.lookup t (.map (some r)) y ok).run P w = .ok z w ∧ VR E a z := by
  unfold lookAV at h
  split at h
  · rename_i n
    cases hy.v_inv
    obtain ⟨⟨kt, et⟩, hm, h⟩ := Option.bind_eq_some_iff.1 h
    simp only at h
    split at h
    case isFalse => cases h
    rename_i hc
    obtain ⟨z, hz, rfl⟩ := Option.map_eq_some_iff.1 h
    have hku := tInt_eq hc.1
    cases hf : findI n es.toList 0 with
    | none =>
      have hg : mget es n = none := by unfold mget; rw [hf]; rfl
      refine ⟨if ok = true then .tuple #[z, .bool false] else z, ?_, ?_⟩
      · simp [Instr.lookup, run_underlying (tMap_eq hm), MapKept.run_getObj_map hb, run_checkKey_int hku, run_findKey_int hku hc.2, hf, run_zeroValue0 hz]
      · rw [hg]
        cases ok with
        | true => exact .tup _ #[z, .bool false] rfl (fun i c hc => by
            match i, hc with
            | 0, hc => cases hc; exact .v _
            | 1, hc => cases hc; exact .v _)
        | false => exact .v _
    | some x =>
      obtain ⟨i, v⟩ := x
      have hg : mget es n = some v := by unfold mget; rw [hf]; rfl
      refine ⟨if ok = true then .tuple #[v, .bool true] else v, ?_, ?_⟩
      · simp [Instr.lookup, run_underlying (tMap_eq hm), MapKept.run_getObj_map hb, run_checkKey_int hku, run_findKey_int hku hc.2, hf]
      · rw [hg]
        cases ok with
        | true => exact .tup _ #[v, .bool true] rfl (fun i c hc => by
            match i, hc with
            | 0, hc => cases hc; exact .v _
            | 1, hc => cases hc; exact .v _)
        | false => exact .v _
  · obtain ⟨kq, hkq, h⟩ := Option.bind_eq_some_iff.1 h
    have hyv := keyQ_val hy hkq
    subst hyv
    obtain ⟨⟨kt, et⟩, hm, h⟩ := Option.bind_eq_some_iff.1 h
    simp only at h
    split at h
    case isFalse => cases h
    rename_i hc
    obtain ⟨z, hz, rfl⟩ := Option.map_eq_some_iff.1 h
    cases hf : findQ kq es.toList 0 with
    | none =>
      have hg : qget es kq = none := by unfold qget; rw [hf]; rfl
      refine ⟨if ok = true then .tuple #[z, .bool false] else z, ?_, ?_⟩
      · simp [Instr.lookup, run_underlying (tMap_eq hm), MapKept.run_getObj_map hb, run_checkKey_Q hc.1, run_findKey_Q hc.1 hc.2, hf, run_zeroValue0 hz]
      · rw [hg]
        cases ok with
        | true => exact .tup _ #[z, .bool false] rfl (fun i c hc => by
            match i, hc with
            | 0, hc => cases hc; exact .v _
            | 1, hc => cases hc; exact .v _)
        | false => exact .v _
    | some x =>
      obtain ⟨i, v⟩ := x
      have hg : qget es kq = some v := by unfold qget; rw [hf]; rfl
      refine ⟨if ok = true then .tuple #[v, .bool true] else v, ?_, ?_⟩
      · simp [Instr.lookup, run_underlying (tMap_eq hm), MapKept.run_getObj_map hb, run_checkKey_Q hc.1, run_findKey_Q hc.1 hc.2, hf]
      · rw [hg]
        cases ok with
        | true => exact .tup _ #[v, .bool true] rfl (fun i c hc => by
            match i, hc with
            | 0, hc => cases hc; exact .v _
            | 1, hc => cases hc; exact .v _)
        | false => exact .v _
theorem lookupAV_sound (hr : Rel G st E a) {t : TypeId} {ok : Bool} {p q r : AV} {x y : Value} (hx : VR E p x) (hy : VR E q y) (h : lookupAV G.P st t ok p q = some r) : ∃ z, (Instr.lookup t x y ok).run G.P E.w = .ok z E.w ∧ VR E r z := by
  unfold lookupAV at h
  split at h
  · cases hx with
    | mapv _ _ b hS hb => exact lookAV_sound hb hy h
  · rename_i id k
    split at h
    case isFalse => cases h
    rename_i hk
    split at h
    · rename_i es clk hh
      cases hx with
      | ref _ _ _ h1 h2 =>
        have hx := h2 (by rw [hr.ver]; exact hk)
        subst hx
        have hb := hr.blocks id
        rw [hh] at hb
        obtain ⟨g1, g2, _⟩ := hb
        rw [g2]
        exact lookAV_sound g1 hy h
    · cases h
  · cases h
theorem evalV_sound (hr : Rel G st E a) {o : Oper} {r : AV} (h : evalV G.P st o.op = some r) :
    ∃ z, (execOp a.eval o).run G.P E.w = .ok (.value z) E.w ∧ VR E r z := by
  unfold evalV at h
  split at h
  · cases h; rename_i x ho; exact ⟨_, by simp [execOp, ho], hr.ev x⟩
  · cases h; rename_i x ho; exact ⟨_, by simp [execOp, ho], hr.ev x⟩
  · rename_i c x y ho
    have hc := hr.ev c
    split at h
    · rename_i t ht
      rw [ht] at hc
      cases h
      have hc := hc.v_inv
      refine ⟨if t then a.eval x else a.eval y, ?_, ?_⟩
      · simp [execOp, ho, hc, asBool]
      · cases t <;> simp [hr.ev]
    · cases h
  · rename_i t x ho
    obtain ⟨z, h1, h2⟩ := ldAV_sound hr (hr.ev x) h
    exact ⟨z, by simp [execOp, ho, h1], h2⟩
  · rename_i op t x y yt ho
    obtain ⟨z, h1, h2⟩ := binAV_sound (ox := x) (oy := y) (hr.ev x) (hr.ev y) h
    exact ⟨z, by simp only [execOp, ho]; rw [Sem.run_bind, h1]; rfl, h2⟩
  · rename_i op t x ho
    obtain ⟨z, h1, h2⟩ := unAV_sound (P := G.P) (hr.ev x) h
    exact ⟨z, by simp [execOp, ho, h1], h2⟩
  · rename_i s d x ho
    split at h
    case isFalse => cases h
    rename_i hs
    obtain ⟨z, h1, h2⟩ := convAV_sound hs (hr.ev x) h
    exact ⟨z, by simp [execOp, ho, h1], h2⟩
  · rename_i f first captured ho
    cases h
    refine ⟨.func f (first.map a.eval) (captured.map a.eval), by simp [execOp, ho, Instr.makeFunc], .fn _ _ _ _ _ (by simp) (by simp) ?_ ?_⟩
    · intro i c hi
      simp only [List.getElem?_map, Option.map_eq_some_iff] at hi
      obtain ⟨o', ho', rfl⟩ := hi
      have : (first.map a.eval).getD i undef = a.eval o' := by
        rw [Array.getElem?_toList] at ho'
        simp [Array.getD_eq_getD_getElem?, ho']
      rw [this]; exact hr.ev o'
    · intro i c hi
      simp only [List.getElem?_map, Option.map_eq_some_iff] at hi
      obtain ⟨o', ho', rfl⟩ := hi
      have : (captured.map a.eval).getD i undef = a.eval o' := by
        rw [Array.getElem?_toList] at ho'
        simp [Array.getD_eq_getD_getElem?, ho']
      rw [this]; exact hr.ev o'
  · rename_i t x f ho
    obtain ⟨z, h1, h2⟩ := fieldAddrAV_sound hr (hr.ev x) h
    exact ⟨z, by simp [execOp, ho, h1], h2⟩
  · rename_i t x f ho
    obtain ⟨z, h1, h2⟩ := fieldAV_sound (hr.ev x) h
    exact ⟨z, by simp [execOp, ho, h1], h2⟩
  · rename_i t x i ho
    obtain ⟨z, h1, h2⟩ := indexAddrAV_sound hr (hr.ev x) (hr.ev i) h
    exact ⟨z, by simp [execOp, ho, h1], h2⟩
  · rename_i t x i ho
    obtain ⟨z, h1, h2⟩ := indexAV_sound (hr.ev x) (hr.ev i) h
    exact ⟨z, by simp [execOp, ho, h1], h2⟩
  · rename_i x i ho
    have hx := hr.ev x
    split at h
    · rename_i cs hcs
      rw [hcs] at hx
      generalize hy : a.eval x = y at hx
      cases hx with
      | tup _ us hl hc =>
        have hlt : i < us.size := by rw [← hl]; exact (List.getElem?_eq_some_iff.1 h).1
        refine ⟨us.getD i undef, ?_, hc i r h⟩
        simp [execOp, ho, Instr.extract, hy, hlt]
    · cases h
  · rename_i t x lo hi mx ho
    obtain ⟨z, h1, h2⟩ := sliceAV_sound hr (hr.ev x) h
    exact ⟨z, by simp [execOp, ho, h1], h2⟩
  · rename_i t m k ok ho
    obtain ⟨z, h1, h2⟩ := lookupAV_sound hr (hr.ev m) (hr.ev k) h
    exact ⟨z, by simp [execOp, ho, h1], h2⟩
  · rename_i c ho
    split at h
    · rename_i hcal
      split at h
      · rename_i x t hargs htypes
        have hargs' : c.args = #[x] := by rw [← Array.toList_inj]; simpa using hargs
        have htypes' : c.argTypes = #[t] := by rw [← Array.toList_inj]; simpa using htypes
        obtain ⟨z, h1, h2⟩ := lenAV_sound (ty := o.type) hr (hr.ev x) h
        exact ⟨z, by simp [execOp, ho, resolve, hcal, hargs', htypes', invoke, builtin, h1], h2⟩
      · cases h
    · rename_i hcal
      split at h
      · rename_i x y hargs
        have hargs' : c.args = #[x, y] := by rw [← Array.toList_inj]; simpa using hargs
        obtain ⟨z, h1, h2⟩ := minAV_sound (P := G.P) (ats := c.argTypes) (ty := o.type) (hr.ev x) (hr.ev y) h
        exact ⟨z, by simp [execOp, ho, resolve, hcal, hargs', invoke, builtin, h1], h2⟩
      · cases h
    · rename_i hcal
      split at h
      · rename_i x y hargs
        have hargs' : c.args = #[x, y] := by rw [← Array.toList_inj]; simpa using hargs
        obtain ⟨z, h1, h2⟩ := maxAV_sound (P := G.P) (ats := c.argTypes) (ty := o.type) (hr.ev x) (hr.ev y) h
        exact ⟨z, by simp [execOp, ho, resolve, hcal, hargs', invoke, builtin, h1], h2⟩
      · cases h
    · cases h
  · cases h

end
end Go.Abs

-- part Fd
namespace Go.Abs
open Go Go.RowKit

theorem BR.mono {E E' : Env} {base : Nat} {o : Own} {blk : Blk} (hle : E.Le E') (hb : ∀ b, blk.at o = some b → E'.w.heap[b]? = E.w.heap[b]? ∧ (E'.S b → E.S b)) (h : BR E base o blk) : BR E' base o blk := by
  cases blk with
  | none => trivial
  | arr e sz xs =>
    obtain ⟨h1, us, hown, hlen, hvs, hblk⟩ := h
    refine ⟨h1, us, ?_, hlen, hvs.mono hle, fun b hb' => ⟨(hblk b hb').1, fun hS => (hblk b hb').2 ((hb b hb').2 hS)⟩⟩
    refine ⟨hown.1, ?_⟩
    rcases hown.2 with hn | ⟨g, cap, cur, hv, hg, hh, r⟩
    · exact .inl hn
    · exact .inr ⟨g, cap, cur, hv, hg, by rw [(hb g (by simp [Blk.at, hv, Value.ownBlock])).1]; exact hh, r⟩
  | box cs =>
    obtain ⟨us, t, hh, h1, h2, h3⟩ := h
    have := hb o.blk rfl
    exact ⟨us, t, by rw [this.1]; exact hh, h1, fun hS => h2 (this.2 hS), h3.mono hle⟩
  | map es clk =>
    obtain ⟨hh, h1, h2, h3⟩ := h
    have := hb o.blk rfl
    exact ⟨by rw [this.1]; exact hh, h1, h2, fun hS => h3 (this.2 hS)⟩
  | obj x =>
    obtain ⟨hh, h2, h3⟩ := h
    have := hb o.blk rfl
    exact ⟨by rw [this.1]; exact hh, h2, fun hS => h3 (this.2 hS)⟩
  | iter es clk done =>
    obtain ⟨b, hS, hm, hh, h2, h3, h4⟩ := h
    have := hb o.blk rfl
    exact ⟨b, hle.S b hS, by rw [hle.heap b hS]; exact hm, by rw [this.1]; exact hh, h2, fun hS => h3 (this.2 hS), h4⟩

theorem BR.at_lt {E : Env} {base : Nat} {o : Own} {blk : Blk} (h : BR E base o blk) {b : Nat} (hb : blk.at o = some b) : base ≤ b ∧ b < E.w.heap.size ∧ ¬ E.S b := by
  cases blk with
  | none => cases hb
  | arr e sz xs =>
    obtain ⟨h1, us, hown, hlen, hvs, hblk⟩ := h
    have := hown.lt b hb
    exact ⟨this.1, this.2, (hblk b hb).2⟩
  | box cs =>
    obtain ⟨us, t, hh, h1, h2, h3⟩ := h
    simp only [Blk.at, Option.some.injEq] at hb
    subst hb
    exact ⟨h1, (Array.getElem?_eq_some_iff.1 hh).1, h2⟩
  | map es clk =>
    obtain ⟨hh, _, h2, h3⟩ := h
    simp only [Blk.at, Option.some.injEq] at hb
    subst hb
    exact ⟨h2, (Array.getElem?_eq_some_iff.1 hh).1, h3⟩
  | obj x =>
    obtain ⟨hh, h2, h3⟩ := h
    simp only [Blk.at, Option.some.injEq] at hb
    subst hb
    exact ⟨h2, (Array.getElem?_eq_some_iff.1 hh).1, h3⟩
  | iter es clk done =>
    obtain ⟨b', _, _, hh, h2, h3, _⟩ := h
    simp only [Blk.at, Option.some.injEq] at hb
    subst hb
    exact ⟨h2, (Array.getElem?_eq_some_iff.1 hh).1, h3⟩

section
variable {G : Ctx} {st : St} {E : Env} {a : Act}

/-- The deferred calls of an activation, in a later environment. -/
theorem Rel.defersLe {E' : Env} (hr : Rel G st E a) (hle : E.Le E') : ∀ d ∈ a.defers, ∃ r, d = ⟨.collected r, #[]⟩ ∧ E'.S r ∧ G.w0.heap.size ≤ r ∧ E'.w.heap[r]? = some (.deferred (some [])) ∧ ∀ E0, G.e0 = some E0 → ¬ E0.S r := fun d hd => by
  obtain ⟨r, h1, h2, h3, h4, h5⟩ := hr.defers d hd
  exact ⟨r, h1, hle.S r h2, h3, by rw [hle.heap r h2]; exact h4, h5⟩
theorem Rel.le0Le {E' : Env} (hr : Rel G st E a) (hle : E.Le E') : ∀ E0, G.e0 = some E0 → E0.Le E' := fun E0 h => (hr.le0 E0 h).trans hle

def St.put (st : St) (dst : Option Tmp) (r : AV) : St :=
  match dst with
  | some d => { st with σ := upd st.σ d r }
  | none => st

theorem Rel.put (hr : Rel G st E a) {dst : Option Tmp} {r : AV} {x : Value} (hx : VR E r x) (hd : ∀ d, dst = some d → d < G.n) : Rel G (st.put dst r) E (a.put dst x) := by
  cases dst with
  | none => exact hr
  | some d =>
    have hlt := hd d rfl
    refine ⟨by simpa [Act.put] using hr.size, hr.defers, hr.once, hr.le0, hr.ver, hr.below, hr.Slt, hr.S0, hr.Snew, fun j => ?_, hr.blocks, hr.apart⟩
    have hsz := hr.size
    by_cases hj : j = d
    · subst hj
      simp only [St.put, upd, if_true, Act.put]
      have : (a.tmps.setIfInBounds j x).getD j undef = x := by simp [Array.getD_eq_getD_getElem?, hsz, hlt]
      rw [this]; exact hx
    · simp only [St.put, upd, hj, if_false, Act.put]
      have : (a.tmps.setIfInBounds d x).getD j undef = a.tmps.getD j undef := by
        simp [Array.getD_eq_getD_getElem?, Array.getElem?_setIfInBounds_ne (Ne.symm hj)]
      rw [this]; exact hr.slots j

/-- A later environment with the same own blocks. -/
theorem Rel.later {E' : Env} (hr : Rel G st E a) (hle : E.Le E') (hver : E'.ver = E.ver) (hbelow : Below G.w0.heap.size G.w0 E'.w) (hSlt : ∀ b, E'.S b → b < E'.w.heap.size)
    (hnew : ∀ b, E'.S b → E.S b ∨ E.w.heap.size ≤ b) (hkept : ∀ b, b < E.w.heap.size → E'.w.heap[b]? = E.w.heap[b]?) : Rel G st E' a := by
  have hown : ∀ id, E'.own id = E.own id := fun id => hle.own id (by rw [hver])
  refine ⟨hr.size, hr.defersLe hle, hr.once, hr.le0Le hle, hver.trans hr.ver, hbelow, hSlt, fun b hb => hle.S b (hr.S0 b hb), fun b hb => ?_, fun j => (hr.slots j).mono hle, fun id => ?_, fun id id' b hne => ?_⟩
  · rcases hnew b hb with h | h
    · exact hr.Snew b h
    · exact .inr (Nat.le_trans hr.below.size h)
  · rw [hown]
    refine (hr.blocks id).mono hle fun b hb => ?_
    have := (hr.blocks id).at_lt hb
    exact ⟨hkept b this.2.1, fun hS => (hnew b hS).resolve_right (by omega)⟩
  · rw [hown, hown]; exact hr.apart id id' b hne

theorem heap_alloc_lt (w : World) (o : Obj) (b : Nat) (h : b < w.heap.size) : (w.alloc o).heap[b]? = w.heap[b]? := heap_alloc_old w o h

def Env.frozen (E : Env) (o : Obj) : Env := { E with S := fun b => E.S b ∨ b = E.w.heap.size, w := E.w.alloc o }

theorem Env.le_frozen (E : Env) (hS : ∀ b, E.S b → b < E.w.heap.size) (o : Obj) : E.Le (E.frozen o) :=
  ⟨fun _ h => .inl h, fun b hb => heap_alloc_lt _ _ b (hS b hb), fun _ => Nat.le_refl _, fun _ _ => rfl⟩

/-- A new block that nobody will write. -/
theorem Rel.frozen (hr : Rel G st E a) (o : Obj) : Rel G st (E.frozen o) a :=
  hr.later (E.le_frozen hr.Slt o) rfl (hr.below.alloc hr.below.size o) (fun b hb => by
    rcases hb with hb | hb
    · have := hr.Slt b hb; simp [Env.frozen]; omega
    · subst hb; simp [Env.frozen]) (fun b hb => by rcases hb with hb | hb; exact .inl hb; exact .inr (Nat.le_of_eq hb.symm)) (fun b hb => heap_alloc_lt _ _ b hb)

/-- A slot's abstract value may be weakened. -/
theorem Rel.weaken (hr : Rel G st E a) {d : Nat} {r : AV} (h : ∀ x, VR E (st.σ d) x → VR E r x) : Rel G { st with σ := upd st.σ d r } E a :=
  ⟨hr.size, hr.defers, hr.once, hr.le0, hr.ver, hr.below, hr.Slt, hr.S0, hr.Snew, fun j => by
    by_cases hj : j = d
    · subst hj; simp only [upd, if_true]; exact h _ (hr.slots j)
    · simp only [upd, hj, if_false]; exact hr.slots j, hr.blocks, hr.apart⟩

/-- Own block 'id' takes new content in a new world. -/
theorem Rel.own0 {E' : Env} (hr : Rel G st E a) (id : Nat) (blk : Blk) (o : Own) (k : Nat) (hver : E'.ver = upd E.ver id k) (hk : E.ver id ≤ k) (hown : E'.own = upd E.own id o) (hkeep : k = E.ver id → o = E.own id) (hS : E'.S = E.S)
    (hbelow : Below G.w0.heap.size G.w0 E'.w) (hsz : E.w.heap.size ≤ E'.w.heap.size)
    (hkept : ∀ b, b < E.w.heap.size → (st.h id).at (E.own id) ≠ some b → E'.w.heap[b]? = E.w.heap[b]?)
    (hblk : BR E' G.w0.heap.size o blk) (hat : ∀ b, blk.at o = some b → ∀ j, j ≠ id → (st.h j).at (E.own j) ≠ some b) :
    Rel G { st with ver := upd st.ver id k, h := upd st.h id blk } E' a := by
  have hle : E.Le E' := by
    refine ⟨fun b hb => by rw [hS]; exact hb, fun b hb => hkept b (hr.Slt b hb) fun h => ((hr.blocks id).at_lt h).2.2 hb, fun j => ?_, fun j hj => ?_⟩
    · rw [hver]; by_cases h : j = id <;> simp [upd, h, hk]
    · rw [hown]; rw [hver] at hj
      by_cases h : j = id
      · subst h; simp only [upd, if_true] at hj ⊢; exact hkeep hj
      · simp [upd, h]
  refine ⟨hr.size, hr.defersLe hle, hr.once, hr.le0Le hle, by rw [hver, hr.ver], hbelow, fun b hb => ?_, fun b hb => hle.S b (hr.S0 b hb), fun b hb => ?_, fun j => (hr.slots j).mono hle, fun j => ?_, fun j j' b hne => ?_⟩
  · rw [hS] at hb; exact Nat.lt_of_lt_of_le (hr.Slt b hb) hsz
  · rw [hS] at hb; exact hr.Snew b hb
  · by_cases hj : j = id
    · subst hj; simp only [upd, if_true, hown]; exact hblk
    · simp only [upd, hj, if_false, hown]
      refine (hr.blocks j).mono hle fun b hb => ⟨hkept b ((hr.blocks j).at_lt hb).2.1 fun h => hr.apart j id b hj hb h, fun h => by rw [hS] at h; exact h⟩
  · by_cases hj : j = id
    · subst hj
      have hj' : j' ≠ j := Ne.symm hne
      simp only [upd, if_true, hown, hj', if_false]
      intro hb hb'
      exact hat b hb j' hj' hb'
    · by_cases hj' : j' = id
      · subst hj'
        simp only [upd, if_true, hown, hj, if_false]
        intro hb hb'
        exact hat b hb' j hj hb
      · simp only [upd, hj, hj', if_false, hown]; exact hr.apart j j' b hne

theorem Rel.own {E' : Env} (hr : Rel G st E a) (id : Nat) (blk : Blk) (o : Own) (k : Nat) (hver : E'.ver = upd E.ver id k) (hk : E.ver id ≤ k) (hown : E'.own = upd E.own id o) (hkeep : k = E.ver id → o = E.own id) (hS : E'.S = E.S)
    (hbelow : Below G.w0.heap.size G.w0 E'.w) (hsz : E.w.heap.size ≤ E'.w.heap.size)
    (hkept : ∀ b, b < E.w.heap.size → (st.h id).at (E.own id) ≠ some b → E'.w.heap[b]? = E.w.heap[b]?)
    (hblk : BR E' G.w0.heap.size o blk) (hat : ∀ b, blk.at o = some b → (st.h id).at (E.own id) = some b ∨ E.w.heap.size ≤ b) :
    Rel G { st with ver := upd st.ver id k, h := upd st.h id blk } E' a :=
  hr.own0 id blk o k hver hk hown hkeep hS hbelow hsz hkept hblk fun b hb j hj hb' => by
    rcases hat b hb with h | h
    · exact hr.apart j id b hj hb' h
    · have := ((hr.blocks j).at_lt hb').2.1; omega

/-- May this stand in one cell of memory? -/
def okCell (st : St) : AV → Bool
  | .v x => x.oneCell'
  | .lst .. | .eptr .. | .fn .. | .mapv .. => true
  | .rptr id k _ _ => k == st.ver id
  | .ref id k => k == st.ver id && (match st.h id with | .arr .. => true | .map .. => true | _ => false)
  | _ => false

theorem okCell_one (hr : Rel G st E a) {p : AV} {x : Value} (hx : VR E p x) (h : okCell st p = true) : x.oneCell' = true ∧ p.cells = [p] := by
  cases hx with
  | junk _ => cases h
  | v _ => exact ⟨h, rfl⟩
  | agg _ _ _ _ => cases h
  | tup _ _ _ _ => cases h
  | lst _ _ _ _ _ _ => exact ⟨rfl, rfl⟩
  | lstNil _ => exact ⟨rfl, rfl⟩
  | lstNo _ _ _ _ => exact ⟨rfl, rfl⟩
  | eptr _ _ _ _ _ => exact ⟨rfl, rfl⟩
  | fn _ _ _ _ _ => exact ⟨rfl, rfl⟩
  | mapv _ _ _ _ _ => exact ⟨rfl, rfl⟩
  | full _ _ _ _ => exact ⟨rfl, rfl⟩
  | osl _ _ _ _ _ _ _ _ => cases h
  | rptr id k i j x h1 h2 =>
    simp only [okCell, beq_iff_eq] at h
    rw [h2 (by rw [hr.ver]; exact h)]; exact ⟨rfl, rfl⟩
  | ref id k x h1 h2 =>
    simp only [okCell, Bool.and_eq_true, beq_iff_eq] at h
    refine ⟨?_, rfl⟩
    rw [h2 (by rw [hr.ver]; exact h.1)]
    have hb := hr.blocks id
    have h3 := h.2
    split at h3
    · rename_i e sz xs hh
      rw [hh] at hb
      obtain ⟨_, us, hown, _⟩ := hb
      rcases hown.2 with ⟨hv, _⟩ | ⟨g, cap, cur, hv, _⟩ <;> rw [hv] <;> rfl
    · rename_i es clk hh
      rw [hh] at hb
      rw [hb.2.1]; rfl
    · cases h3

/-- May this be stored in memory, cell by cell? -/
def okCells (st : St) (p : AV) : Bool := p.cells.all (okCell st)

theorem oneCell_cells {x : Value} (h : x.oneCell' = true) : x.cells = #[x] := by
  cases x <;> first | rfl | cases h

theorem okCells_spec (hr : Rel G st E a) {p : AV} {x : Value} (hx : VR E p x) (h : okCells st p = true) :
    VRs E p.cells x.cells.toList ∧ ∀ u ∈ x.cells.toList, u.oneCell' = true := by
  by_cases hagg : ∃ cs, p = .agg cs
  · obtain ⟨cs, rfl⟩ := hagg
    cases hx with
    | agg _ us hl hc =>
      simp only [okCells, AV.cells, List.all_eq_true] at h
      refine ⟨⟨by simpa [AV.cells, Value.cells] using hl, fun i c u hi hu => ?_⟩, fun u hu => ?_⟩
      · simp only [AV.cells, Value.cells, Array.getElem?_toList] at hi hu
        have := hc i c hi
        simpa [Array.getD_eq_getD_getElem?, hu] using this
      · simp only [Value.cells] at hu
        obtain ⟨i, hi⟩ := List.mem_iff_getElem?.1 hu
        have hlt : i < cs.length := by rw [hl]; simpa using (List.getElem?_eq_some_iff.1 hi).1
        have hci : cs[i]? = some cs[i] := List.getElem?_eq_getElem hlt
        have h1 := hc i _ hci
        simp only [Array.getElem?_toList] at hi
        have hu' : us.getD i undef = u := by simp [Array.getD_eq_getD_getElem?, hi]
        rw [hu'] at h1
        exact (okCell_one hr h1 (h _ (List.mem_of_getElem? hci))).1
  · have hcells : p.cells = [p] := by cases p <;> first | rfl | exact absurd ⟨_, rfl⟩ hagg
    have hc : okCell st p = true := by simpa [okCells, hcells] using h
    have h1 := okCell_one hr hx hc
    rw [oneCell_cells h1.1, hcells]
    refine ⟨⟨by simp, fun i c u hi hu => ?_⟩, by simpa using h1.1⟩
    cases i with
    | zero => simp at hi hu; subst hi; subst hu; exact hx
    | succ i => simp at hi

/-! ### New memory -/

theorem frozen_get (E : Env) (us : Array Value) (t : TypeId) (k : Nat) (h : k < us.size) : (E.frozen (.cells us t (0, 0))).w.cell? ⟨E.w.heap.size, 0 + k, none⟩ = some (us.getD k undef) := by
  show (E.w.alloc (.cells us t (0, 0))).cell? ⟨E.w.heap.size, 0 + k, none⟩ = _
  rw [cell_of_row _ _ _ us t (0, 0) (heap_alloc_new _ _)]
  simp [Array.getD_eq_getD_getElem?, h]

/-- A new variable that is only read from now on. -/
theorem Rel.boxFrozen (hr : Rel G st E a) {p : AV} {x : Value} (hx : VR E p x) (h : okCells st p = true) (t : TypeId) :
    Rel G st (E.frozen (.cells x.cells t (0, 0))) a ∧ VR (E.frozen (.cells x.cells t (0, 0))) (.eptr p.cells 0) (.pointer (some ⟨E.w.heap.size, 0, none⟩)) := by
  obtain ⟨hv, _⟩ := okCells_spec hr hx h
  have hl : p.cells.length = x.cells.size := by simpa using hv.1
  refine ⟨hr.frozen _, .eptr p.cells 0 E.w.heap.size 0 (fun k => x.cells.getD k undef) (.inr rfl) (fun k hk => frozen_get E _ t k (by omega)) fun k c hk => ?_⟩
  have hlt : k < x.cells.size := by rw [← hl]; exact (List.getElem?_eq_some_iff.1 hk).1
  refine VR.mono (E.le_frozen hr.Slt _) (hv.2 k c _ hk ?_)
  simp [Array.getD_eq_getD_getElem?, hlt]

/-- A new variable of the walk's own. -/
theorem Rel.boxOwn (hr : Rel G st E a) {cs : List AV} {us : Array Value} (hv : VRs E cs us.toList) (t : TypeId) (id : Nat) :
    ∃ E', E'.w = E.w.alloc (.cells us t (0, 0)) ∧ Rel G { st with ver := upd st.ver id (st.ver id + 1), h := upd st.h id (.box cs) } E' a ∧ VR E' (.rptr id (st.ver id + 1) 0 0) (.pointer (some ⟨E.w.heap.size, 0, none⟩)) := by
  refine ⟨{ ver := upd E.ver id (st.ver id + 1), own := upd E.own id ⟨.pointer none, E.w.heap.size, 0⟩, S := E.S, w := E.w.alloc (.cells us t (0, 0)) }, rfl, ?_, ?_⟩
  · have hve : E.ver id = st.ver id := by rw [hr.ver]
    have hle : E.Le { ver := upd E.ver id (st.ver id + 1), own := upd E.own id ⟨.pointer none, E.w.heap.size, 0⟩, S := E.S, w := E.w.alloc (.cells us t (0, 0)) } :=
      ⟨fun _ h => h, fun b hb => heap_alloc_lt _ _ b (hr.Slt b hb), fun j => by by_cases h : j = id <;> simp [upd, h, hve], fun j hj => by
        by_cases h : j = id
        · subst h; simp [upd, hve] at hj
        · simp [upd, h]⟩
    refine hr.own id (.box cs) ⟨.pointer none, E.w.heap.size, 0⟩ (st.ver id + 1) rfl (by omega) rfl (fun h => by omega) rfl (hr.below.alloc hr.below.size _) (by simp) (fun b hb _ => heap_alloc_lt _ _ b hb) ?_ ?_
    · exact ⟨us, t, heap_alloc_new _ _, hr.below.size, fun h => absurd (hr.Slt _ h) (by simp), hv.mono hle⟩
    · intro b hb; simp only [Blk.at, Option.some.injEq] at hb; subst hb; exact .inr (Nat.le_refl _)
  · exact .rptr _ _ _ _ _ (by simp [upd]) fun _ => by simp [upd]

/-- A new array of the walk's own, whole. -/
theorem Rel.arrOwn (hr : Rel G st E a) {e sz : Nat} {xs : List AV} {us : Array Value} (hv : VRs E (xs.flatMap AV.cells) us.toList) (hlen : ∀ x ∈ xs, x.cells.length = sz) (hn : xs.length ≤ maxLen) (id : Nat) :
    ∃ E', E'.w = E.w.alloc (.cells us e (0, 0)) ∧ Rel G { st with ver := upd st.ver id (st.ver id + 1), h := upd st.h id (.arr e sz xs) } E' a ∧
      VR E' (.ref id (st.ver id + 1)) (.slice (some ⟨E.w.heap.size, 0, none⟩) xs.length xs.length) := by
  let o : Own := ⟨.slice (some ⟨E.w.heap.size, 0, none⟩) xs.length xs.length, E.w.heap.size, sz⟩
  refine ⟨{ ver := upd E.ver id (st.ver id + 1), own := upd E.own id o, S := E.S, w := E.w.alloc (.cells us e (0, 0)) }, rfl, ?_, ?_⟩
  · have hve : E.ver id = st.ver id := by rw [hr.ver]
    have hle : E.Le { ver := upd E.ver id (st.ver id + 1), own := upd E.own id o, S := E.S, w := E.w.alloc (.cells us e (0, 0)) } :=
      ⟨fun _ h => h, fun b hb => heap_alloc_lt _ _ b (hr.Slt b hb), fun j => by by_cases h : j = id <;> simp [upd, h, hve], fun j hj => by
        by_cases h : j = id
        · subst h; simp [upd, hve] at hj
        · simp [upd, h]⟩
    have hul : us.size = xs.length * sz := by have := hv.1; rw [flat_length xs hlen] at this; simpa using this.symm
    refine hr.own id (.arr e sz xs) o (st.ver id + 1) rfl (by omega) rfl (fun h => by omega) rfl (hr.below.alloc hr.below.size _) (by simp) (fun b hb _ => heap_alloc_lt _ _ b hb) ?_ ?_
    · refine ⟨rfl, us.toList, ⟨by simpa using hul, .inr ⟨E.w.heap.size, xs.length, us, rfl, hr.below.size, heap_alloc_new _ _, Nat.le_refl _, hn, Nat.le_of_eq hul.symm, ?_⟩⟩, hlen, hv.mono hle, ?_⟩
      · rw [List.take_of_length_le (by simp [hul])]
      · intro b hb; simp only [o, Value.ownBlock, Option.some.injEq] at hb; subst hb; exact ⟨rfl, fun h => absurd (hr.Slt _ h) (by simp)⟩
    · intro b hb; simp only [Blk.at, o, Value.ownBlock, Option.some.injEq] at hb; subst hb; exact .inr (Nat.le_refl _)
  · exact .ref _ _ _ (by simp [upd]) fun _ => by simp [upd, o]

/-- A nil slice may be taken for an own array without elements. -/
theorem Rel.nilOwn (hr : Rel G st E a) (e sz : Nat) (id d : Nat) (hd : st.σ d = .v (.slice none 0 0)) :
    ∃ E', E'.w = E.w ∧ Rel G { σ := upd st.σ d (.ref id (st.ver id + 1)), ver := upd st.ver id (st.ver id + 1), h := upd st.h id (.arr e sz []) } E' a := by
  let o : Own := ⟨.slice none 0 0, 0, sz⟩
  refine ⟨{ ver := upd E.ver id (st.ver id + 1), own := upd E.own id o, S := E.S, w := E.w }, rfl, ?_⟩
  have hve : E.ver id = st.ver id := by rw [hr.ver]
  have hr' : Rel G { st with ver := upd st.ver id (st.ver id + 1), h := upd st.h id (.arr e sz []) } { ver := upd E.ver id (st.ver id + 1), own := upd E.own id o, S := E.S, w := E.w } a := by
    refine hr.own id (.arr e sz []) o (st.ver id + 1) rfl (by omega) rfl (fun h => by omega) rfl hr.below (Nat.le_refl _) (fun b hb _ => rfl) ?_ ?_
    · exact ⟨rfl, [], ⟨by simp, .inl ⟨rfl, rfl⟩⟩, by simp, ⟨rfl, by simp⟩, fun b hb => by simp [o, Value.ownBlock] at hb⟩
    · intro b hb; simp [Blk.at, o, Value.ownBlock] at hb
  refine hr'.weaken fun x hx => ?_
  simp only [hd] at hx
  rw [hx.v_inv]
  exact .ref _ _ _ (by simp [upd]) fun _ => by simp [upd, o]

/-! ### Literals -/

def spliceL {α : Type} (cs : List α) (off : Nat) (new : List α) : List α := cs.take off ++ new ++ cs.drop (off + new.length)

theorem splice_len {α : Type} (cs : List α) (off : Nat) (new : List α) (h : off + new.length ≤ cs.length) : (spliceL cs off new).length = cs.length := by simp [spliceL]; omega

theorem splice_get {α : Type} (cs : List α) (off : Nat) (new : List α) (h : off + new.length ≤ cs.length) (k : Nat) :
    (spliceL cs off new)[k]? = if off ≤ k ∧ k < off + new.length then new[k - off]? else cs[k]? := by
  unfold spliceL
  have ht : (cs.take off).length = off := by simp; omega
  by_cases h1 : k < off
  · rw [if_neg (by omega), List.append_assoc, List.getElem?_append_left (by omega), List.getElem?_take, if_pos h1]
  · by_cases h2 : k < off + new.length
    · rw [if_pos ⟨by omega, h2⟩, List.append_assoc, List.getElem?_append_right (by omega), ht, List.getElem?_append_left (by omega)]
    · rw [if_neg (by omega), List.getElem?_append_right (by simp; omega), List.getElem?_drop]
      congr 1
      simp; omega

theorem VRs.splice {cs new : List AV} {us vs : List Value} {off : Nat} (h1 : VRs E cs us) (h2 : VRs E new vs) (h : off + new.length ≤ cs.length) : VRs E (spliceL cs off new) (spliceL us off vs) := by
  have hl := h1.1
  have hn := h2.1
  refine ⟨by rw [splice_len _ _ _ h, splice_len _ _ _ (by omega)]; exact hl, fun i c u hc hu => ?_⟩
  rw [splice_get _ _ _ h] at hc
  rw [splice_get _ _ _ (by omega)] at hu
  split at hc
  · rename_i hi; rw [if_pos (by omega)] at hu; exact h2.2 _ c u hc hu
  · rename_i hi; rw [if_neg (by omega)] at hu; exact h1.2 _ c u hc hu

theorem fill_fold (off : Nat) : ∀ (l : List Value) (k : Nat) (cells : Array Value), off + k + l.length ≤ cells.size →
    ((l.zipIdx k).foldl (fun cs (x : Value × Nat) => cs.setIfInBounds (off + x.2) x.1) cells).toList = spliceL cells.toList (off + k) l
  | [], k, cells, h => by simp [spliceL]
  | v :: l, k, cells, h => by
    simp only [List.length_cons] at h
    rw [List.zipIdx_cons, List.foldl_cons, fill_fold off l (k + 1) _ (by simp; omega)]
    apply List.ext_getElem?
    intro i
    rw [splice_get _ _ _ (by simp; omega), splice_get _ _ _ (by simp; omega)]
    simp only [List.length_cons, Array.toList_setIfInBounds]
    by_cases h1 : off + (k + 1) ≤ i ∧ i < off + (k + 1) + l.length
    · rw [if_pos h1, if_pos (by omega), show i - (off + k) = (i - (off + (k + 1))) + 1 from by omega, List.getElem?_cons_succ]
    · rw [if_neg h1]
      by_cases h2 : i = off + k
      · subst h2
        rw [if_pos (by omega), Nat.sub_self, List.getElem?_cons_zero, List.getElem?_set_self (by simp; omega)]
      · rw [if_neg (by omega), List.getElem?_set_ne (by omega)]

def fillL (place : Nat → Option (Nat × Nat)) (cells : List AV) : List (Nat × AV) → Option (List AV)
  | [] => some cells
  | (i, p) :: rest =>
    match place i with
    | none => none
    | some (off, size) => if p.cells.length = size ∧ off + size ≤ cells.length then fillL place (spliceL cells off p.cells) rest else none

theorem fillL_sound {place : Nat → Option (Nat × Nat)} : ∀ (parts : List (Nat × AV)) (vals : List (Nat × Value)) (cells : List AV) (us : Array Value) (out : List AV), VRs E cells us.toList →
    parts.length = vals.length → (∀ (i : Nat) p x, parts[i]? = some p → vals[i]? = some x → p.1 = x.1 ∧ VRs E p.2.cells x.2.cells.toList) → fillL place cells parts = some out →
    ∃ vs, Instr.fill place us vals = some vs ∧ VRs E out vs.toList
  | [], [], cells, us, out, h, _, _, ho => by simp only [fillL, Option.some.injEq] at ho; subst ho; exact ⟨us, rfl, h⟩
  | (i, p) :: parts, (j, x) :: vals, cells, us, out, h, hl, hp, ho => by
    obtain ⟨he, hpx⟩ := hp 0 _ _ rfl rfl
    simp only at he hpx
    subst he
    simp only [fillL] at ho
    simp only [Instr.fill]
    cases hpl : place i with
    | none => simp [hpl] at ho
    | some os =>
      obtain ⟨off, size⟩ := os
      simp only [hpl] at ho ⊢
      split at ho
      case isFalse => cases ho
      rename_i hc
      have hxl : x.cells.size = size := by have := hpx.1; rw [hc.1] at this; simpa using this.symm
      have hul : us.size = cells.length := by simpa using h.1.symm
      have hcond : (decide (x.cells.size ≠ size) || decide (off + x.cells.size > us.size)) = false := by
        simp [hxl, hul]; omega
      have hfold : (x.cells.zipIdx.foldl (fun cs (y : Value × Nat) => cs.setIfInBounds (off + y.2) y.1) us).toList = spliceL us.toList off x.cells.toList := by
        rw [← Array.foldl_toList, Array.toList_zipIdx]
        have := fill_fold off x.cells.toList 0 us (by simp [hxl, hul]; omega)
        simpa using this
      have h' : VRs E (spliceL cells off p.cells) (x.cells.zipIdx.foldl (fun cs (y : Value × Nat) => cs.setIfInBounds (off + y.2) y.1) us).toList := by
        rw [hfold]; exact h.splice hpx (by rw [hc.1]; exact hc.2)
      obtain ⟨vs, h1, h2⟩ := fillL_sound parts vals _ _ out h' (by simpa using hl) (fun k p' x' hk hk' => hp (k + 1) p' x' (by simpa using hk) (by simpa using hk')) ho
      refine ⟨vs, ?_, h2⟩
      rw [if_neg (by simpa using hcond)]
      exact h1
  | [], _ :: _, _, _, _, _, hl, _, _ => by simp at hl
  | _ :: _, [], _, _, _, _, hl, _, _ => by simp at hl

end
end Go.Abs

-- part Fe
namespace Go.Abs
open Go Go.RowKit

def tPlaces (P : Program) (t : TypeId) : Option (List (Nat × Nat)) :=
  match P.underlying t with
  | some (.struct fs) => fs.toList.mapM fun f => (P.info? f.type).map fun i => (f.offset, i.size)
  | _ => none

def evParts (st : St) (parts : Array (Nat × Operand)) : List (Nat × AV) := parts.toList.map fun x => (x.1, st.ev x.2)

def valCells (z : Value) : List AV := z.cells.toList.map .v

def buildAV (P : Program) (st : St) (t : TypeId) (parts : Array (Nat × Operand)) : Option AV :=
  if (evParts st parts).all fun x => okCells st x.2 then
    match tZero P t with
    | none => none
    | some z => match tPlaces P t with
      | some pl => (fillL (fun i => pl[i]?) (valCells z) (evParts st parts)).map .agg
      | none => match tArr P t with
        | some (_, m) => (fillL (fun i => some (i * m, m)) (valCells z) (evParts st parts)).map .agg
        | none => none
  else none

section
variable {G : Ctx} {st : St} {E : Env} {a : Act}

theorem valCells_vrs (E : Env) (z : Value) : VRs E (valCells z) z.cells.toList := by
  refine ⟨by simp [valCells], fun i c u hc hu => ?_⟩
  simp only [valCells, List.getElem?_map, hu, Option.map_some, Option.some.injEq] at hc
  subst hc; exact .v u

theorem evParts_rel (hr : Rel G st E a) {parts : Array (Nat × Operand)} (h : ((evParts st parts).all fun x => okCells st x.2) = true) (i : Nat) (p : Nat × AV) (x : Nat × Value)
    (hp : (evParts st parts)[i]? = some p) (hx : (parts.map fun (i, x) => (i, a.eval x)).toList[i]? = some x) : p.1 = x.1 ∧ VRs E p.2.cells x.2.cells.toList ∧ ∀ u ∈ x.2.cells.toList, u.oneCell' = true := by
  have hok := List.all_eq_true.1 h p (List.mem_of_getElem? hp)
  simp only [evParts, List.getElem?_map, Option.map_eq_some_iff] at hp
  obtain ⟨q, hq, rfl⟩ := hp
  simp only [Array.toList_map, List.getElem?_map, hq, Option.map_some, Option.some.injEq] at hx
  subst hx
  have := okCells_spec hr (hr.ev q.2) hok
  exact ⟨rfl, this.1, this.2⟩

theorem buildAV_sound (hr : Rel G st E a) {t : TypeId} {parts : Array (Nat × Operand)} {r : AV} (h : buildAV G.P st t parts = some r) :
    ∃ z, (Instr.build t (parts.map fun (i, x) => (i, a.eval x))).run G.P E.w = .ok z E.w ∧ VR E r z := by
  unfold buildAV at h
  split at h
  case isFalse => cases h
  rename_i hok
  split at h
  · cases h
  · rename_i z hz
    have hlen : (evParts st parts).length = (parts.map fun (i, x) => (i, a.eval x)).toList.length := by simp [evParts]
    have hrel : ∀ (i : Nat) p x, (evParts st parts)[i]? = some p → (parts.map fun (i, x) => (i, a.eval x)).toList[i]? = some x → p.1 = x.1 ∧ VRs E p.2.cells x.2.cells.toList := fun i p x hp hx =>
      let h := evParts_rel hr hok i p x hp hx; ⟨h.1, h.2.1⟩
    have fin : ∀ (place : Nat → Option (Nat × Nat)), (fillL place (valCells z) (evParts st parts)).map AV.agg = some r →
        (∀ us, Instr.fill place z.cells (parts.map fun (i, x) => (i, a.eval x)).toList = some us → G.P.built t (parts.map fun (i, x) => (i, a.eval x)).toList = some us) →
        ∃ z', (Instr.build t (parts.map fun (i, x) => (i, a.eval x))).run G.P E.w = .ok z' E.w ∧ VR E r z' := by
      intro place hm hb
      obtain ⟨out, ho, rfl⟩ := Option.map_eq_some_iff.1 hm
      obtain ⟨vs, h1, h2⟩ := fillL_sound (E := E) _ _ _ z.cells _ (valCells_vrs E z) hlen hrel ho
      refine ⟨.agg vs, run_build _ _ _ _ (hb _ h1), .agg _ _ (by simpa using h2.1) fun i c hc => ?_⟩
      have hi : i < vs.size := by have := h2.1; simp at this; rw [← this]; exact (List.getElem?_eq_some_iff.1 hc).1
      exact h2.2 i c _ hc (by simp [Array.getD_eq_getD_getElem?, hi])
    unfold tZero at hz
    cases hit : G.P.info? t with
    | none => simp [hit] at hz
    | some it =>
      have hz' : it.zero = some z := by simpa [hit] using hz
      split at h
      · rename_i pl hpl
        unfold tPlaces at hpl
        split at hpl
        · rename_i fs hu
          refine fin _ h fun us hus => ?_
          unfold Program.built
          simp only [hit, hu, hz', hpl]
          have : (fun (i : Nat) => pl.toArray[i]?) = fun (i : Nat) => pl[i]? := by funext i; simp
          rw [this]; exact hus
        · cases hpl
      · split at h
        · rename_i n m hm
          unfold tArr at hm
          split at hm
          · rename_i n' e hu
            obtain ⟨m', hm', hmm⟩ := Option.map_eq_some_iff.1 hm
            simp only [Prod.mk.injEq] at hmm
            obtain ⟨_, rfl⟩ := hmm
            unfold tSize at hm'
            cases hie : G.P.info? e with
            | none => simp [hie] at hm'
            | some ie =>
              have hsz : ie.size = m' := by simpa [hie] using hm'
              refine fin _ h fun us hus => ?_
              unfold Program.built
              simp only [hit, hu, hz', hie, hsz]
              exact hus
          · cases hm
        · cases h

/-! ### Slice literals, every element written in order -/

def litAV (P : Program) (st : St) (t : TypeId) (len : Nat) (parts : Array (Nat × Operand)) : Option (Nat × Nat × List AV) :=
  match tElem P t with
  | none => none
  | some e => match tSize P e with
    | none => none
    | some sz =>
      if (parts.toList.map (·.1)) = List.range len ∧ ((evParts st parts).all fun x => okCells st x.2 && x.2.cells.length == sz) = true ∧ (len * sz ≤ 16777216 ∧ len ≤ 16777216) ∧ (tZero P e).map (·.cells.size) = some sz then
        some (e, sz, (evParts st parts).map (·.2))
      else none

theorem fill_lit {sz : Nat} : ∀ (vals : List (Nat × Value)) (n : Nat) (pre post : List Value), pre.length = n * sz → post.length = vals.length * sz → (vals.map (·.1)) = List.range' n vals.length → (∀ v ∈ vals, v.2.cells.size = sz) →
    Instr.fill (fun i => some (i * sz, sz)) (pre ++ post).toArray vals = some (pre ++ vals.flatMap fun v => v.2.cells.toList).toArray
  | [], n, pre, post, h1, h2, _, _ => by
    have : post = [] := List.eq_nil_of_length_eq_zero (by simpa using h2)
    simp [Instr.fill, this]
  | (i, v) :: vals, n, pre, post, h1, h2, h3, h4 => by
    simp only [List.map_cons, List.length_cons, List.range'_succ, List.cons.injEq] at h3
    obtain ⟨rfl, h3⟩ := h3
    have hv := h4 (i, v) (by simp)
    simp only at hv
    simp only [List.length_cons, Nat.succ_mul] at h2
    have hcond : (decide (v.cells.size ≠ sz) || decide (i * sz + v.cells.size > (pre ++ post).toArray.size)) = false := by
      simp [hv, h1]; omega
    have hfold : v.cells.zipIdx.foldl (fun cs (y : Value × Nat) => cs.setIfInBounds (i * sz + y.2) y.1) (pre ++ post).toArray = ((pre ++ v.cells.toList) ++ post.drop sz).toArray := by
      rw [← Array.toList_inj, ← Array.foldl_toList, Array.toList_zipIdx]
      have := fill_fold (i * sz) v.cells.toList 0 (pre ++ post).toArray (by simp [hv, h1]; omega)
      rw [Nat.add_zero] at this
      rw [this]
      have e1 : (pre ++ post).take (i * sz) = pre := by rw [List.take_append_of_le_length (by omega), List.take_of_length_le (by omega)]
      have e2 : (pre ++ post).drop (i * sz + v.cells.toList.length) = post.drop sz := by
        rw [List.drop_append, List.drop_eq_nil_of_le (by omega), List.nil_append]; congr 1; simp [hv]; omega
      simp only [spliceL, e1, e2]
    simp only [Instr.fill]
    rw [if_neg (by simpa using hcond), hfold, fill_lit vals (i + 1) (pre ++ v.cells.toList) (post.drop sz) (by simp [hv, h1, Nat.succ_mul]) (by simp; omega) h3 (fun w hw => h4 w (by simp [hw]))]
    simp [List.append_assoc]

theorem run_lit (hr : Rel G st E a) {t : TypeId} {len : Nat} {parts : Array (Nat × Operand)} {e sz : Nat} {xs : List AV} (h : litAV G.P st t len parts = some (e, sz, xs)) :
    ∃ us : Array Value, (Instr.buildSlice t len (parts.map fun (i, x) => (i, a.eval x))).run G.P E.w = .ok (.slice (some ⟨E.w.heap.size, 0, none⟩) len len) (E.w.alloc (.cells us e (0, 0))) ∧
      xs.length = len ∧ (∀ x ∈ xs, x.cells.length = sz) ∧ VRs E (xs.flatMap AV.cells) us.toList ∧ (∀ u ∈ us.toList, u.oneCell' = true) ∧ (∀ x ∈ xs, okCells st x = true) ∧ us.size = len * sz := by
  unfold litAV at h
  split at h
  · cases h
  rename_i e' he
  split at h
  · cases h
  rename_i sz' hsz
  split at h
  case isFalse => cases h
  rename_i hc
  simp only [Option.some.injEq, Prod.mk.injEq] at h
  obtain ⟨rfl, rfl, rfl⟩ := h
  obtain ⟨hidx, hall, ⟨hsmall, _⟩, hzero⟩ := hc
  have hplen : parts.size = len := by have := congrArg List.length hidx; simpa using this
  have hok : ((evParts st parts).all fun x => okCells st x.2) = true := by
    rw [List.all_eq_true] at hall ⊢
    intro x hx; have := hall x hx; simp only [Bool.and_eq_true] at this; exact this.1
  have hcl : ∀ x ∈ (evParts st parts).map (·.2), x.cells.length = sz' := by
    intro x hx
    obtain ⟨y, hy, rfl⟩ := List.mem_map.1 hx
    have := List.all_eq_true.1 hall y hy
    simp only [Bool.and_eq_true, beq_iff_eq] at this
    exact this.2
  let vals := (parts.map fun (i, x) => (i, a.eval x)).toList
  have hvl : vals.length = len := by simp [vals, hplen]
  have hrel : ∀ (i : Nat) (p : Nat × AV) (x : Nat × Value), (evParts st parts)[i]? = some p → vals[i]? = some x → p.1 = x.1 ∧ VRs E p.2.cells x.2.cells.toList ∧ ∀ u ∈ x.2.cells.toList, u.oneCell' = true := fun i p x hp hx => evParts_rel hr hok i p x hp hx
  have hel : (evParts st parts).length = len := by simp [evParts, hplen]
  have hvs : ∀ v ∈ vals, v.2.cells.size = sz' := by
    intro v hv
    obtain ⟨i, hi⟩ := List.mem_iff_getElem?.1 hv
    have hlt : i < (evParts st parts).length := by rw [hel, ← hvl]; exact (List.getElem?_eq_some_iff.1 hi).1
    have h1 := (hrel i _ v (List.getElem?_eq_getElem hlt) hi).2.1.1
    have h2 := hcl ((evParts st parts)[i]).2 (List.mem_map.2 ⟨_, List.getElem_mem hlt, rfl⟩)
    rw [h2] at h1; simpa using h1.symm
  have hvidx : vals.map (·.1) = List.range' 0 vals.length := by
    rw [hvl, ← List.range_eq_range', ← hidx]
    simp [vals, List.map_map, Function.comp_def]
  have hflat : VRs E ((evParts st parts).flatMap fun x => x.2.cells) (vals.flatMap fun v => v.2.cells.toList) := by
    have gen : ∀ (l : List (Nat × AV)) (m : List (Nat × Value)), l.length = m.length → (∀ (i : Nat) p x, l[i]? = some p → m[i]? = some x → VRs E p.2.cells x.2.cells.toList) →
        VRs E (l.flatMap fun x => x.2.cells) (m.flatMap fun v => v.2.cells.toList) := by
      intro l
      induction l with
      | nil => intro m hl _; have : m = [] := List.eq_nil_of_length_eq_zero hl.symm; subst this; exact ⟨rfl, by simp⟩
      | cons p l ih =>
        intro m hl hp
        cases m with
        | nil => simp at hl
        | cons x m =>
          have h0 := hp 0 p x rfl rfl
          have h1 := ih m (by simpa using hl) fun i p' x' h h' => hp (i + 1) p' x' (by simpa using h) (by simpa using h')
          refine ⟨by simp only [List.flatMap_cons, List.length_append, h0.1, h1.1], fun i c u hc hu => ?_⟩
          simp only [List.flatMap_cons] at hc hu
          have hlen := h0.1
          by_cases hi : i < p.2.cells.length
          · rw [List.getElem?_append_left hi] at hc
            rw [List.getElem?_append_left (by omega)] at hu
            exact h0.2 i c u hc hu
          · rw [List.getElem?_append_right (by omega)] at hc
            rw [List.getElem?_append_right (by omega), ← hlen] at hu
            exact h1.2 _ c u hc hu
    exact gen _ _ (by rw [hel, hvl]) fun i p x h h' => (hrel i p x h h').2.1
  have hxs : ((evParts st parts).map (·.2)).flatMap AV.cells = (evParts st parts).flatMap fun x => x.2.cells := by simp [List.flatMap_map]
  obtain ⟨z, hz, hzs⟩ := Option.map_eq_some_iff.1 hzero
  unfold tZero at hz
  cases hie : G.P.info? e' with
  | none => simp [hie] at hz
  | some ie =>
    have hz' : ie.zero = some z := by simpa [hie] using hz
    have hies : ie.size = sz' := by have := hsz; unfold tSize at this; simpa [hie] using this
    have hone : ∀ u ∈ vals.flatMap (fun v => v.2.cells.toList), u.oneCell' = true := by
      intro u hu
      obtain ⟨v, hv, hu⟩ := List.mem_flatMap.1 hu
      obtain ⟨i, hi⟩ := List.mem_iff_getElem?.1 hv
      have hlt : i < (evParts st parts).length := by rw [hel, ← hvl]; exact (List.getElem?_eq_some_iff.1 hi).1
      exact (hrel i _ v (List.getElem?_eq_getElem hlt) hi).2.2 u hu
    have hsizeflat : (vals.flatMap fun v => v.2.cells.toList).length = len * sz' := by
      rw [← hflat.1, ← hxs, flat_length _ hcl]; simp [hel]
    refine ⟨(vals.flatMap fun v => v.2.cells.toList).toArray, ?_, by simp [hel], hcl, by rw [hxs]; exact hflat, hone, fun x hx => ?_, by simpa using hsizeflat⟩
    · by_cases hzl : len * ie.size = 0
      · have hfill := fill_lit (sz := ie.size) vals 0 [] [] (by simp) (by simp [hvl, hzl]) hvidx (by rw [hies]; exact hvs)
        simp only [List.append_nil, List.nil_append] at hfill
        have hfill' : Instr.fill (fun i => some (i * ie.size, ie.size)) #[] vals = some (vals.flatMap fun v => v.2.cells.toList).toArray := hfill
        simp only [vals] at hfill'
        simp only [Instr.buildSlice, Sem.run_bind, run_underlying (tElem_eq he), Result.andThen_ok, run_sizeOf hsz]
        rw [hies] at hzl
        have hn : ¬ len * sz' > 2 ^ 24 := by omega
        rw [hies] at hfill'
        simp only [Array.toList_map] at hfill'
        simp [hzl, newRow, vals, Array.range_zero', hfill']
      · have hfill := fill_lit (sz := ie.size) vals 0 [] ((Array.range (len * ie.size)).map (z.cells[· % z.cells.size]!)).toList (by simp) (by simp [hvl]) hvidx (by rw [hies]; exact hvs)
        simp only [List.nil_append, Array.toArray_toList] at hfill
        exact run_buildSlice E.w t e' len _ _ ie z (tElem_eq he) hie hz' (by rw [hies]; omega) hzl hfill
    · obtain ⟨y, hy, rfl⟩ := List.mem_map.1 hx
      exact List.all_eq_true.1 hok y hy

end
end Go.Abs

-- part Ff
namespace Go.Abs
open Go Go.RowKit

theorem ownsRow_base {w : World} {b b' : Nat} {e : TypeId} {size : Nat} {v : Value} {n : Nat} {xs : List Value} (h : w.ownsRowW b e size v n xs) (hb : b' ≤ b) : w.ownsRowW b' e size v n xs := by
  refine ⟨h.1, ?_⟩
  rcases h.2 with hn | ⟨g, cap, cur, hv, hg, r⟩
  · exact .inl hn
  · exact .inr ⟨g, cap, cur, hv, Nat.le_trans hb hg, r⟩

theorem run_append_ownedW_none {P : Program} (w : World) (base : Nat) (t ty e : TypeId) (i : TypeInfo) (size : Nat) (ht : P.underlying t = some (.slice e)) (hi : P.info? e = some i)
    (v : Value) (n : Nat) (xs : List Value) (hown : w.ownsRowW base e size v n xs) : (Builtin.append_ #[t, t] ty #[v, .slice none 0 0]).run P w = .ok v w := by
  rcases hown.2 with ⟨rfl, rfl⟩ | ⟨g, cap, cur, rfl, _, _, hnc, _⟩
  · simp [Builtin.append_, run_underlying ht, sizeOf, typeInfo, hi, Builtin.lenOf, Builtin.firstCells]
  · simp [Builtin.append_, run_underlying ht, sizeOf, typeInfo, hi, Builtin.lenOf, Builtin.firstCells, hnc, storeCells]
/-- An append to an array of one's own: the block stays, or it is a new one. -/
theorem run_append_same {P : Program} (w : World) (base : Nat) (t ty e : TypeId) (i : TypeInfo) (z : Value) (size bytes : Nat) (ht : P.underlying t = some (.slice e)) (hi : P.info? e = some i) (hz : i.zero = some z)
    (hsize : i.size = size) (hby : i.bytes = bytes) (hzs : z.cells.size = size) (hsz : 0 < size)
    (v : Value) (n : Nat) (xs : List Value) (hown : w.ownsRowW base e size v n xs)
    (a : Addr) (m c : Nat) (news : List Value) (hl : news.length = m * size) (hnews : ∀ j u, news[j]? = some u → w.cell? (a.add j) = some u) (h1 : ∀ u ∈ news, u.oneCell' = true)
    (h63 : n + m ≤ maxLen) (hbytes : (n + m) * bytes ≤ 140737488355328) (hbase : base ≤ w.heap.size) :
    ∃ v' w', (Builtin.append_ #[t, t] ty #[v, .slice (some a) m c]).run P w = .ok v' w' ∧ w'.ownsRowW base e size v' (n + m) (xs ++ news) ∧ w.grownBy w' v.ownBlock ∧
      (∀ b, v'.ownBlock = some b → v.ownBlock = some b ∨ w.heap.size ≤ b) := by
  rcases hown.2 with ⟨rfl, rfl⟩ | ⟨g, cap, cur, rfl, hbg, hg, hnc, hcm, hcs, htake⟩
  · have hx : xs = [] := List.eq_nil_of_length_eq_zero (by simpa using hown.1)
    subst hx
    obtain ⟨v', w', hr, ho, hgr, _⟩ := run_append_own w w.heap.size t ty e i z size bytes ht hi hz hsize hby hzs hsz (.slice none 0 0) 0 [] (World.ownsRow_nil _ _ _ _) a m c news hl hnews h1 h63 hbytes (Nat.le_refl _)
    exact ⟨v', w', hr, ownsRow_base ho.w hbase, hgr, fun b hb => .inr (ho.lt b hb).1⟩
  · by_cases hroom : n + m ≤ cap
    · subst hsize
      have hfit : n * i.size + news.length ≤ cur.size := by
        have : (n + m) * i.size ≤ cap * i.size := Nat.mul_le_mul_right _ hroom
        rw [Nat.add_mul] at this
        omega
      have hr := run_append_room (P := P) w t ty e i ht hi g n cap cur hg a m c news hl hnews h1 hroom hfit
      have hlen : (xs ++ news).length = (n + m) * i.size := by rw [List.length_append, hown.1, hl, Nat.add_mul]
      refine ⟨_, _, hr, ⟨hlen, .inr ⟨g, cap, _, rfl, hbg, setRow_heap w g cur _ e _ hg, hroom, hcm, ?_, ?_⟩⟩, ⟨rfl, rfl, rfl, by simp, fun k _ hk => setRow_other w g k _ (fun e => hk (by simp [Value.ownBlock, e]))⟩, fun b hb => .inl hb⟩
      · simp only [List.size_toArray, List.length_append, List.length_take, List.length_drop, Array.length_toList]
        omega
      · rw [htake, ← hlen, List.take_left]
    · have holds : ∀ j u, xs[j]? = some u → w.cell? ((⟨g, 0, none⟩ : Addr).add j) = some u := hown.cells (g := g) rfl
      obtain ⟨v', w', hr, ho, hgr⟩ := run_append_arg_grows w t ty e i z size bytes ht hi hz hsize hby hzs hsz ⟨g, 0, none⟩ n cap xs hown.1 holds a m c news hl hnews (by omega) h63 hbytes
      exact ⟨v', w', hr, ownsRow_base ho.w hbase, ⟨hgr.os, hgr.tape, hgr.output, hgr.size, fun k hk _ => hgr.block k hk (by simp)⟩, fun b hb => .inr (ho.lt b hb).1⟩

theorem flat_drop {sz q : Nat} {zs : List AV} (h : ∀ z ∈ zs, z.cells.length = sz) (hq : q ≤ zs.length) : (zs.drop q).flatMap AV.cells = (zs.flatMap AV.cells).drop (q * sz) := by
  have hl : ((zs.take q).flatMap AV.cells).length = q * sz := by
    rw [flat_length _ fun z hz => h z (List.mem_of_mem_take hz), List.length_take, Nat.min_eq_left hq]
  conv => rhs; rw [← List.take_append_drop q zs, List.flatMap_append, ← hl, List.drop_left]
theorem flat_take {sz q : Nat} {zs : List AV} (h : ∀ z ∈ zs, z.cells.length = sz) (hq : q ≤ zs.length) : (zs.take q).flatMap AV.cells = (zs.flatMap AV.cells).take (q * sz) := by
  have hl : ((zs.take q).flatMap AV.cells).length = q * sz := by
    rw [flat_length _ fun z hz => h z (List.mem_of_mem_take hz), List.length_take, Nat.min_eq_left hq]
  conv => rhs; rw [← List.take_append_drop q zs, List.flatMap_append, ← hl, List.take_left]
/-- The elements of a slice that is appended, or copied. -/
def srcAV (st : St) (sz : Nat) : AV → Option (List AV)
  | .lst sz' xs => if sz' = sz then some xs else none
  | .ref id k => if k = st.ver id then
      match st.h id with
      | .arr _ sz' xs => if sz' = sz then some xs else none
      | _ => none
    else none
  | .osl id k lo hi _ => if k = st.ver id then
      match st.h id with
      | .arr _ sz' xs => if sz' = sz ∧ lo ≤ hi ∧ hi ≤ xs.length then some ((xs.drop lo).take (hi - lo)) else none
      | _ => none
    else none
  | .v (.slice none 0 0) => some []
  | _ => none

section
variable {G : Ctx} {st : St} {E : Env} {a : Act}

theorem flat_vrs_lst {sz : Nat} {xs : List AV} {u : Nat → Value} (hlen : ∀ (i : Nat) x, xs[i]? = some x → x.cells.length = sz) (h : ∀ (i : Nat) x (j : Nat) c, xs[i]? = some x → x.cells[j]? = some c → VR E c (u (i * sz + j))) :
    VRs E (xs.flatMap AV.cells) ((List.range (xs.length * sz)).map u) := by
  have hall : ∀ x ∈ xs, x.cells.length = sz := fun x hx => by obtain ⟨i, hi⟩ := List.mem_iff_getElem?.1 hx; exact hlen i x hi
  refine ⟨by rw [flat_length xs hall]; simp, fun k c v hc hv => ?_⟩
  have hk : k < xs.length * sz := by rw [← flat_length xs hall]; exact (List.getElem?_eq_some_iff.1 hc).1
  have hpos : 0 < sz := by rcases Nat.eq_zero_or_pos sz with h0 | h0; subst h0; simp at hk; exact h0
  have hdiv : k / sz < xs.length := Nat.div_lt_of_lt_mul (by rw [Nat.mul_comm]; exact hk)
  have hx := List.getElem?_eq_getElem hdiv
  have hkk : k = k / sz * sz + k % sz := by rw [Nat.mul_comm]; exact (Nat.div_add_mod k sz).symm
  have hg := flat_get xs (k / sz) _ (k % sz) hall hx (Nat.mod_lt _ hpos)
  rw [← hkk, hc] at hg
  have := h _ _ _ _ hx hg.symm
  rw [← hkk] at this
  have hvu : v = u k := by
    rw [List.getElem?_map, List.getElem?_range hk] at hv; simpa using hv.symm
  rw [hvu]; exact this

theorem srcAV_sound (hr : Rel G st E a) {sz : Nat} {p : AV} {y : Value} {ys : List AV} (hy : VR E p y) (h : srcAV st sz p = some ys) :
    (∀ x ∈ ys, x.cells.length = sz) ∧ ((y = .slice none 0 0 ∧ ys = []) ∨
      ∃ (ad : Addr) (c : Nat) (us : List Value), y = .slice (some ad) ys.length c ∧ us.length = ys.length * sz ∧ (∀ j u, us[j]? = some u → E.w.cell? (ad.add j) = some u) ∧ VRs E (ys.flatMap AV.cells) us) := by
  unfold srcAV at h
  split at h
  · split at h
    case isFalse => cases h
    rename_i hs
    subst hs
    cases h
    cases hy with
    | lst _ _ b off cap u hS c1 c2 c3 c4 c5 =>
      refine ⟨fun x hx => by obtain ⟨i, hi⟩ := List.mem_iff_getElem?.1 hx; exact c4 i x hi, .inr ⟨⟨b, off, none⟩, cap, _, rfl, by simp, fun j v hv => ?_, flat_vrs_lst c4 c5⟩⟩
      have hj := (List.getElem?_eq_some_iff.1 hv).1
      simp only [List.length_map, List.length_range] at hj
      rw [List.getElem?_map, List.getElem?_range hj] at hv
      rw [add_none, c3 j hj]; simpa using hv
    | lstNil => exact ⟨by simp, .inl ⟨rfl, rfl⟩⟩
    | lstNo _ cap ad _ => exact ⟨by simp, .inr ⟨ad, cap, [], rfl, by simp, by simp, ⟨rfl, by simp⟩⟩⟩
  · rename_i id k
    split at h
    case isFalse => cases h
    rename_i hk
    split at h
    · rename_i e sz' xs hh
      split at h
      case isFalse => cases h
      rename_i hs
      subst hs
      cases h
      cases hy with
      | ref _ _ _ h1 h2 =>
        rw [h2 (by rw [hr.ver]; exact hk)]
        have hb := hr.blocks id
        rw [hh] at hb
        obtain ⟨hsz, us, hown, hlen, hvs, hblk⟩ := hb
        refine ⟨hlen, ?_⟩
        rcases hown.2 with ⟨hv, hn⟩ | ⟨g, cap, cur, hv, _⟩
        · exact .inl ⟨hv, List.eq_nil_of_length_eq_zero hn⟩
        · exact .inr ⟨⟨g, 0, none⟩, cap, us, hv, hown.1, hown.cells (by rw [hv]; rfl), hvs⟩
    · cases h
  · rename_i id k lo hi f
    split at h
    case isFalse => cases h
    rename_i hk
    split at h
    · rename_i e sz' xs hh
      split at h
      case isFalse => cases h
      rename_i hs
      obtain ⟨rfl, hlh, hhx⟩ := hs
      cases h
      cases hy with
      | osl _ _ _ _ _ _ h1 h2 =>
        rw [h2 (by rw [hr.ver]; exact hk)]
        have hb := hr.blocks id
        rw [hh] at hb
        obtain ⟨hsz, us, hown, hlen, hvs, hblk⟩ := hb
        refine ⟨fun x hx => hlen x (List.mem_of_mem_drop (List.mem_of_mem_take hx)), ?_⟩
        have hl : ((xs.drop lo).take (hi - lo)).length = hi - lo := by rw [List.length_take, List.length_drop]; omega
        rcases hown.2 with ⟨hv, hn⟩ | ⟨g, cap, cur, hv, _, _, hnc, _⟩
        · left
          have hlo : lo = 0 := by omega
          have hhi : hi = 0 := by omega
          subst hlo; subst hhi
          rw [hv]
          exact ⟨by cases f <;> rfl, by simp⟩
        · right
          have hseg : ((xs.drop lo).take (hi - lo)).flatMap AV.cells = ((xs.flatMap AV.cells).drop (lo * sz')).take ((hi - lo) * sz') := by
            rw [flat_take (fun z hz => hlen z (List.mem_of_mem_drop hz)) (by rw [List.length_drop]; omega), flat_drop hlen (by omega)]
          have hul := hown.1
          have hm1 : lo * sz' + (hi - lo) * sz' = hi * sz' := by rw [← Nat.add_mul]; congr 1; omega
          have hm2 : hi * sz' ≤ xs.length * sz' := Nat.mul_le_mul_right _ hhx
          have hcl : ((us.drop (lo * sz')).take ((hi - lo) * sz')).length = (hi - lo) * sz' := by rw [List.length_take, List.length_drop]; omega
          have hcells := hown.cells (g := g) (by rw [hv]; rfl)
          refine ⟨if (if f = true then hi else cap) = lo then ⟨g, 0, none⟩ else ⟨g, lo * sz', none⟩, (if f = true then hi else cap) - lo, (us.drop (lo * sz')).take ((hi - lo) * sz'), ?_, by rw [hcl, hl], ?_, ?_⟩
          · rw [hv, hsz, hl, subV_slice]
            by_cases hc : (if f = true then hi else cap) = lo
            · rw [if_pos hc, if_pos hc]
            · rw [if_neg hc, if_neg hc, Option.map_some, add_none, Nat.zero_add]
          · intro j u hu
            have hj := (List.getElem?_eq_some_iff.1 hu).1
            rw [hcl] at hj
            have hne : ¬ (if f = true then hi else cap) = lo := by
              intro hc
              have : hi - lo = 0 := by cases f <;> simp at hc <;> omega
              rw [this] at hj; simp at hj
            rw [if_neg hne, add_none]
            rw [List.getElem?_take, if_pos hj, List.getElem?_drop] at hu
            have := hcells _ u hu
            rw [add_none, Nat.zero_add] at this
            exact this
          · rw [hseg]
            refine ⟨by rw [List.length_take, List.length_drop, List.length_take, List.length_drop, hvs.1], fun i c u hc hu => ?_⟩
            rw [List.getElem?_take] at hc hu
            split at hc
            · rename_i hi'
              rw [if_pos hi', List.getElem?_drop] at hu
              rw [List.getElem?_drop] at hc
              exact hvs.2 _ c u hc hu
            · cases hc
    · cases h
  · cases h; rw [hy.v_inv]; exact ⟨by simp, .inl ⟨rfl, rfl⟩⟩
  · cases h

/-- The own array that an append goes to: its number and what it holds. -/
def destAV (st : St) (d e sz : Nat) : AV → Option (Nat × List AV)
  | .ref id k => if k = st.ver id then
      match st.h id with
      | .arr e' sz' xs => if e' = e ∧ sz' = sz then some (id, xs) else none
      | _ => none
    else none
  | .v (.slice none 0 0) => some (d, [])
  | _ => none

def St.setArr (st : St) (id e sz : Nat) (xs : List AV) : St := { st with ver := upd st.ver id (st.ver id + 1), h := upd st.h id (.arr e sz xs) }

theorem append_sound (hr : Rel G st E a) {t ty : TypeId} {e sz bytes d id : Nat} {p q : AV} {x y : Value} {xs ys : List AV} (hx : VR E p x) (hy : VR E q y)
    (he : tElem G.P t = some e) (hs : tSize G.P e = some sz) (hb : tBytes G.P e = some bytes) (hz : (tZero G.P e).map (·.cells.size) = some sz) (hpos : 0 < sz)
    (hd : destAV st d e sz p = some (id, xs)) (hsrc : srcAV st sz q = some ys) (hok : ∀ c ∈ ys, okCells st c = true) (hn : (xs.length + ys.length) * bytes ≤ 140737488355328) (hn' : xs.length + ys.length ≤ maxLen) :
    ∃ x' E', (Builtin.append_ #[t, t] ty #[x, y]).run G.P E.w = .ok x' E'.w ∧ Rel G (st.setArr id e sz (xs ++ ys)) E' a ∧ VR E' (.ref id (st.ver id + 1)) x' := by
  obtain ⟨hyl, hysrc⟩ := srcAV_sound hr hy hsrc
  have hu := tElem_eq he
  obtain ⟨i, hi, hisz⟩ := Option.map_eq_some_iff.1 hs
  have hiby : i.bytes = bytes := by have := hb; unfold tBytes at this; simpa [hi] using this
  obtain ⟨z, hz0, hzs⟩ := Option.map_eq_some_iff.1 hz
  have hiz : i.zero = some z := by unfold tZero at hz0; simpa [hi] using hz0
  -- the destination
  have hdest : ∃ us, E.w.ownsRowW G.w0.heap.size e sz x xs.length us ∧ VRs E (xs.flatMap AV.cells) us ∧ (∀ c ∈ xs, c.cells.length = sz) ∧ (∀ b, x.ownBlock = some b → (st.h id).at (E.own id) = some b ∧ ¬ E.S b) := by
    unfold destAV at hd
    split at hd
    · rename_i id' k
      split at hd
      case isFalse => cases hd
      rename_i hk
      split at hd
      · rename_i e' sz' xs' hh
        split at hd
        case isFalse => cases hd
        rename_i hes
        obtain ⟨rfl, rfl⟩ := hes
        cases hd
        cases hx with
        | ref _ _ _ h1 h2 =>
          rw [h2 (by rw [hr.ver]; exact hk)]
          have hbk := hr.blocks id
          rw [hh] at hbk
          obtain ⟨hsz', us, hown, hlen, hvs, hblk⟩ := hbk
          exact ⟨us, hown, hvs, hlen, fun b hb => ⟨by rw [hh]; exact hb, (hblk b hb).2⟩⟩
      · cases hd
    · cases hd
      rw [hx.v_inv]
      exact ⟨[], World.ownsRowW_nil _ _ _ _, ⟨rfl, by simp⟩, by simp, fun b hb => by simp [Value.ownBlock] at hb⟩
    · cases hd
  obtain ⟨us, hown, hxv, hxl, hxb⟩ := hdest
  -- the run
  have hrun : ∃ x' w', (Builtin.append_ #[t, t] ty #[x, y]).run G.P E.w = .ok x' w' ∧ (∃ us', VRs E (ys.flatMap AV.cells) us' ∧ w'.ownsRowW G.w0.heap.size e sz x' (xs.length + ys.length) (us ++ us')) ∧
      E.w.grownBy w' x.ownBlock ∧ (∀ b, x'.ownBlock = some b → x.ownBlock = some b ∨ E.w.heap.size ≤ b) := by
    rcases hysrc with ⟨rfl, rfl⟩ | ⟨ad, c, us', rfl, hul, hcell, hvs⟩
    · exact ⟨x, E.w, run_append_ownedW_none (P := G.P) E.w _ t ty e i sz hu hi x _ us hown, ⟨[], ⟨rfl, by simp⟩, by simpa using hown⟩, ⟨rfl, rfl, rfl, Nat.le_refl _, fun _ _ _ => rfl⟩, fun b hb => .inl hb⟩
    · have h1 : ∀ u ∈ us', u.oneCell' = true := by
        intro u hu'
        obtain ⟨k, hk⟩ := List.mem_iff_getElem?.1 hu'
        have hlt : k < (ys.flatMap AV.cells).length := by rw [hvs.1]; exact (List.getElem?_eq_some_iff.1 hk).1
        have hck := List.getElem?_eq_getElem hlt
        obtain ⟨yy, hyy, hmem⟩ := List.mem_flatMap.1 (List.getElem_mem hlt)
        have := hok yy hyy
        simp only [okCells, List.all_eq_true] at this
        exact (okCell_one hr (hvs.2 k _ u hck hk) (this _ hmem)).1
      obtain ⟨x', w', hr1, ho, hg, hsame⟩ := run_append_same E.w G.w0.heap.size t ty e i z sz bytes hu hi hiz hisz hiby hzs hpos x _ us hown ad _ c us' hul hcell h1 hn' hn hr.below.size
      exact ⟨x', w', hr1, ⟨us', hvs, ho⟩, hg, hsame⟩
  obtain ⟨x', w', hr1, ⟨us', hvs', ho⟩, hg, hsame⟩ := hrun
  let o : Own := ⟨x', (x'.ownBlock).getD 0, sz⟩
  let E' : Env := { ver := upd E.ver id (st.ver id + 1), own := upd E.own id o, S := E.S, w := w' }
  have hve : E.ver id = st.ver id := by rw [hr.ver]
  have hle : E.Le E' := by
    refine ⟨fun _ h => h, fun b hb => hg.block b (hr.Slt b hb) fun he => ?_, fun j => by by_cases h : j = id <;> simp [E', upd, h, hve], fun j hj => ?_⟩
    · exact (hxb b he.symm).2 hb
    · by_cases h : j = id
      · subst h; simp [E', upd, hve] at hj
      · simp [E', upd, h]
  have hbk : ∀ b, x'.ownBlock = some b → (st.h id).at (E.own id) = some b ∨ E.w.heap.size ≤ b := fun b hb => (hsame b hb).imp (fun h => (hxb b h).1) (fun h => h)
  refine ⟨x', E', hr1, ?_, .ref _ _ _ (by simp [E', upd]) fun _ => by simp [E', upd, o]⟩
  refine hr.own id (.arr e sz (xs ++ ys)) o (st.ver id + 1) rfl (by omega) rfl (fun h => by omega) rfl ?_ hg.size (fun b hb hne => hg.block b hb fun he => hne (hxb b he.symm).1) ?_ hbk
  · exact hr.below.grown hg hr.below.size fun k hk => (hown.lt k hk).1
  · refine ⟨rfl, us ++ us', by simpa using ho, fun c hc => ?_, ?_, fun b hb => ⟨by simp only [o] at hb ⊢; rw [hb]; rfl, fun hS => ?_⟩⟩
    · rcases List.mem_append.1 hc with h | h
      · exact hxl c h
      · exact hyl c h
    · rw [List.flatMap_append]
      have hxv' := hxv.mono hle
      have hvs'' := hvs'.mono hle
      refine ⟨by simp [hxv'.1, hvs''.1], fun k c u hc hu' => ?_⟩
      by_cases hk : k < (xs.flatMap AV.cells).length
      · rw [List.getElem?_append_left hk] at hc
        rw [List.getElem?_append_left (by rw [← hxv.1]; exact hk)] at hu'
        exact hxv'.2 k c u hc hu'
      · rw [List.getElem?_append_right (by omega)] at hc
        rw [List.getElem?_append_right (by rw [← hxv.1]; omega), ← hxv.1] at hu'
        exact hvs''.2 _ c u hc hu'
    · rcases hsame b hb with h | h
      · exact (hxb b h).2 hS
      · have := hr.Slt b hS; omega

theorem run_append_zero {P : Program} (w : World) (t ty e : TypeId) (i : TypeInfo) (ht : P.underlying t = some (.slice e)) (hi : P.info? e = some i) (ad ay : Option Addr) (n c : Nat) (hc : n ≤ c) (cy : Nat) (hy : ay = none → cy = 0) (hx : ad = none → n = 0 ∧ c = 0) :
    (Builtin.append_ #[t, t] ty #[.slice ad n c, .slice ay 0 cy]).run P w = .ok (.slice ad n c) w := by
  cases ay with
  | none =>
    cases hy rfl
    cases ad with
    | none => obtain ⟨rfl, rfl⟩ := hx rfl; simp [Builtin.append_, run_underlying ht, sizeOf, typeInfo, hi, Builtin.lenOf, Builtin.firstCells]
    | some ad => simp [Builtin.append_, run_underlying ht, sizeOf, typeInfo, hi, Builtin.lenOf, Builtin.firstCells, hc, storeCells]
  | some a =>
    have hf := run_firstCells_some (P := P) w i.size 0 a 0 cy [] (by simp) (by simp)
    cases ad with
    | none => obtain ⟨rfl, rfl⟩ := hx rfl; simp [Builtin.append_, run_underlying ht, sizeOf, typeInfo, hi, Builtin.lenOf, hf]
    | some ad => simp [Builtin.append_, run_underlying ht, sizeOf, typeInfo, hi, Builtin.lenOf, hf, hc, storeCells]
/-- An append of nothing to a frozen list that fills its array. -/
theorem appendFull_none (hr : Rel G st E a) {t ty : TypeId} {e sz : Nat} {q : AV} {x y : Value} {xs : List AV} (hx : VR E (.full sz xs) x) (hy : VR E q y)
    (he : tElem G.P t = some e) (hs : tSize G.P e = some sz) (hsrc : srcAV st sz q = some []) :
    (Builtin.append_ #[t, t] ty #[x, y]).run G.P E.w = .ok x E.w ∧ VR E (.lst sz xs) x := by
  obtain ⟨_, hysrc⟩ := srcAV_sound hr hy hsrc
  have hu := tElem_eq he
  obtain ⟨i, hi, hisz⟩ := Option.map_eq_some_iff.1 hs
  cases hx with
  | full _ _ ad h =>
    refine ⟨?_, h⟩
    have hx : ad = none → xs.length = 0 ∧ xs.length = 0 := by
      rintro rfl
      have : xs = [] := by
        generalize hv : Value.slice none xs.length xs.length = v at h
        cases h with
        | lst => cases hv
        | lstNil => rfl
        | lstNo => rfl
      simp [this]
    rcases hysrc with ⟨rfl, _⟩ | ⟨ay, c, us', rfl, _, _, _⟩
    · exact run_append_zero E.w t ty e i hu hi ad none _ _ (Nat.le_refl _) 0 (fun _ => rfl) hx
    · exact run_append_zero E.w t ty e i hu hi ad (some ay) _ _ (Nat.le_refl _) c (by simp) hx
/-- An append to a frozen list that fills its array: what is appended goes to a new array. -/
theorem appendFull_sound (hr : Rel G st E a) {t ty : TypeId} {e sz bytes id : Nat} {q : AV} {x y : Value} {xs ys : List AV} (hx : VR E (.full sz xs) x) (hy : VR E q y)
    (he : tElem G.P t = some e) (hs : tSize G.P e = some sz) (hb : tBytes G.P e = some bytes) (hz : (tZero G.P e).map (·.cells.size) = some sz) (hpos : 0 < sz)
    (hsrc : srcAV st sz q = some ys) (hok : ∀ c ∈ ys, okCells st c = true) (hne : ys ≠ []) (hn : (xs.length + ys.length) * bytes ≤ 140737488355328) (hn' : xs.length + ys.length ≤ maxLen) :
    ∃ x' E', (Builtin.append_ #[t, t] ty #[x, y]).run G.P E.w = .ok x' E'.w ∧ Rel G (st.setArr id e sz (xs ++ ys)) E' a ∧ VR E' (.ref id (st.ver id + 1)) x' := by
  obtain ⟨hyl, hysrc⟩ := srcAV_sound hr hy hsrc
  have hu := tElem_eq he
  obtain ⟨i, hi, hisz⟩ := Option.map_eq_some_iff.1 hs
  have hiby : i.bytes = bytes := by have := hb; unfold tBytes at this; simpa [hi] using this
  obtain ⟨z, hz0, hzs⟩ := Option.map_eq_some_iff.1 hz
  have hiz : i.zero = some z := by unfold tZero at hz0; simpa [hi] using hz0
  have hfull : ∃ ad, x = .slice ad xs.length xs.length ∧ VR E (.lst sz xs) x := by
    cases hx with
    | full _ _ ad h => exact ⟨ad, rfl, h⟩
  obtain ⟨ad, hxe, hxl'⟩ := hfull
  obtain ⟨hxl, hxsrc⟩ := srcAV_sound hr hxl' (show srcAV st sz (.lst sz xs) = some xs by simp [srcAV])
  have h1 : ∀ us' : List Value, VRs E (ys.flatMap AV.cells) us' → ∀ u ∈ us', u.oneCell' = true := by
    intro us' hvs u hu'
    obtain ⟨k, hk⟩ := List.mem_iff_getElem?.1 hu'
    have hlt : k < (ys.flatMap AV.cells).length := by rw [hvs.1]; exact (List.getElem?_eq_some_iff.1 hk).1
    have hck := List.getElem?_eq_getElem hlt
    obtain ⟨yy, hyy, hmem⟩ := List.mem_flatMap.1 (List.getElem_mem hlt)
    have := hok yy hyy
    simp only [okCells, List.all_eq_true] at this
    exact (okCell_one hr (hvs.2 k _ u hck hk) (this _ hmem)).1
  have hypos : 0 < ys.length := List.length_pos_iff.2 hne
  have hrun : ∃ x' w' us us', (Builtin.append_ #[t, t] ty #[x, y]).run G.P E.w = .ok x' w' ∧ VRs E (xs.flatMap AV.cells) us ∧ VRs E (ys.flatMap AV.cells) us' ∧ w'.ownsRow E.w.heap.size e sz x' (xs.length + ys.length) (us ++ us') ∧
      E.w.grownBy w' none := by
    rcases hysrc with ⟨rfl, rfl⟩ | ⟨ay, c, us', rfl, hul, hcell, hvs⟩
    · exact (hne rfl).elim
    · rcases hxsrc with ⟨hx0, hx1⟩ | ⟨ax, cx, us, hx0, hulx, hcellx, hvsx⟩
      · subst hx1
        rw [hx0]
        obtain ⟨v', w', hr1, ho, hgr, _⟩ := run_append_own E.w E.w.heap.size t ty e i z sz bytes hu hi hiz hisz hiby hzs hpos (.slice none 0 0) 0 [] (World.ownsRow_nil _ _ _ _) ay _ c us' hul hcell (h1 _ hvs) (by simpa using hn') (by simpa using hn) (Nat.le_refl _)
        exact ⟨v', w', [], us', hr1, ⟨rfl, by simp⟩, hvs, by simpa using ho, hgr⟩
      · have hc : cx = xs.length := by rw [hxe] at hx0; cases hx0; rfl
        subst hc
        rw [hx0]
        obtain ⟨v', w', hr1, ho, hgr⟩ := run_append_arg_grows E.w t ty e i z sz bytes hu hi hiz hisz hiby hzs hpos ax xs.length xs.length us hulx hcellx ay ys.length c us' hul hcell (by omega) hn' hn
        exact ⟨v', w', us, us', hr1, hvsx, hvs, ho, hgr⟩
  obtain ⟨x', w', us, us', hr1, hxv, hvs', ho, hg⟩ := hrun
  let o : Own := ⟨x', (x'.ownBlock).getD 0, sz⟩
  let E' : Env := { ver := upd E.ver id (st.ver id + 1), own := upd E.own id o, S := E.S, w := w' }
  have hve : E.ver id = st.ver id := by rw [hr.ver]
  have hle : E.Le E' := by
    refine ⟨fun _ h => h, fun b hb => hg.block b (hr.Slt b hb) (by simp), fun j => by by_cases h : j = id <;> simp [E', upd, h, hve], fun j hj => ?_⟩
    by_cases h : j = id
    · subst h; simp [E', upd, hve] at hj
    · simp [E', upd, h]
  have hnew : ∀ b, x'.ownBlock = some b → E.w.heap.size ≤ b := fun b hb => (ho.lt b hb).1
  refine ⟨x', E', hr1, ?_, .ref _ _ _ (by simp [E', upd]) fun _ => by simp [E', upd, o]⟩
  refine hr.own id (.arr e sz (xs ++ ys)) o (st.ver id + 1) rfl (by omega) rfl (fun h => by omega) rfl ?_ hg.size (fun b hb hne => hg.block b hb (by simp)) ?_ fun b hb => .inr (hnew b hb)
  · exact hr.below.grown hg hr.below.size fun k hk => by cases hk
  · refine ⟨rfl, us ++ us', by simpa using ownsRow_base ho.w hr.below.size, fun c hc => ?_, ?_, fun b hb => ⟨by simp only [o] at hb ⊢; rw [hb]; rfl, fun hS => ?_⟩⟩
    · rcases List.mem_append.1 hc with h | h
      · exact hxl c h
      · exact hyl c h
    · rw [List.flatMap_append]
      have hxv' := hxv.mono hle
      have hvs'' := hvs'.mono hle
      refine ⟨by simp [hxv'.1, hvs''.1], fun k c u hc hu' => ?_⟩
      by_cases hk : k < (xs.flatMap AV.cells).length
      · rw [List.getElem?_append_left hk] at hc
        rw [List.getElem?_append_left (by rw [← hxv.1]; exact hk)] at hu'
        exact hxv'.2 k c u hc hu'
      · rw [List.getElem?_append_right (by omega)] at hc
        rw [List.getElem?_append_right (by rw [← hxv.1]; omega), ← hxv.1] at hu'
        exact hvs''.2 _ c u hc hu'
    · have := hr.Slt b hS
      have := hnew b hb
      omega

/-- The part of an own array, without spare room, that an append goes to. -/
def oslOf (st : St) : AV → Option (Nat × Nat × Nat × List AV × Nat × Nat)
  | .osl id k lo hi true => if k = st.ver id then
      match st.h id with
      | .arr e sz xs => if lo ≤ hi ∧ hi ≤ xs.length then some (id, e, sz, xs, lo, hi) else none
      | _ => none
    else none
  | _ => none
theorem oslOf_eq {st : St} {p : AV} {id e sz lo hi : Nat} {xs : List AV} (h : oslOf st p = some (id, e, sz, xs, lo, hi)) : p = .osl id (st.ver id) lo hi true ∧ st.h id = .arr e sz xs ∧ lo ≤ hi ∧ hi ≤ xs.length := by
  unfold oslOf at h
  split at h
  · rename_i id' k lo' hi'
    split at h
    case isFalse => cases h
    rename_i hk
    split at h
    · rename_i e' sz' xs' hh
      split at h
      case isFalse => cases h
      rename_i hb
      cases h
      exact ⟨by rw [hk], hh, hb.1, hb.2⟩
    · cases h
  · cases h
/-- An append of nothing to the head of an own array: the head is the own array. -/
theorem appendOsl_none (hr : Rel G st E a) {t ty : TypeId} {id e sz hi : Nat} {q : AV} {x y : Value} {xs : List AV} (hh : st.h id = .arr e sz xs) (hhi : hi ≤ xs.length) (hx : VR E (.osl id (st.ver id) 0 hi true) x) (hy : VR E q y)
    (he : tElem G.P t = some e) (hs : tSize G.P e = some sz) (hsrc : srcAV st sz q = some []) :
    ∃ E', (Builtin.append_ #[t, t] ty #[x, y]).run G.P E.w = .ok x E'.w ∧ Rel G (st.setArr id e sz (xs.take hi)) E' a ∧ VR E' (.ref id (st.ver id + 1)) x := by
  obtain ⟨_, hysrc⟩ := srcAV_sound hr hy hsrc
  have hu := tElem_eq he
  obtain ⟨i, hi', hisz⟩ := Option.map_eq_some_iff.1 hs
  have hve : E.ver id = st.ver id := by rw [hr.ver]
  have hb := hr.blocks id
  rw [hh] at hb
  obtain ⟨hsz, us, hown, hlen, hvs, hblk⟩ := hb
  have hxv : x = subV (E.own id).val (E.own id).sz 0 hi true := by
    cases hx with
    | osl _ _ _ _ _ _ h1 h2 => exact h2 hve.symm
  have hmul : hi * sz ≤ xs.length * sz := Nat.mul_le_mul_right _ hhi
  have hul := hown.1
  have hrow : E.w.ownsRowW G.w0.heap.size e sz x (xs.take hi).length (us.take (hi * sz)) ∧ (∀ b, x.ownBlock = some b → (E.own id).val.ownBlock = some b) ∧ (∃ ad, x = .slice ad hi hi ∧ (ad = none → hi = 0)) := by
    rcases hown.2 with ⟨hv, hn⟩ | ⟨g, cap, cur, hv, hg, hheap, hnc, hcm, hcs, ht⟩
    · have h0 : hi = 0 := by omega
      subst h0
      rw [hv] at hxv
      have hxe : x = .slice none 0 0 := by rw [hxv]; rfl
      rw [hxe]
      exact ⟨by simpa using World.ownsRowW_nil E.w G.w0.heap.size e sz, fun b hb => (by cases hb), none, rfl, fun _ => rfl⟩
    · have hxe : x = .slice (some ⟨g, 0, none⟩) hi hi := by
        rw [hxv, hv, subV_slice]
        simp [add_none]
      rw [hxe]
      refine ⟨⟨by rw [List.length_take, List.length_take]; rw [Nat.min_eq_left hhi]; omega, .inr ⟨g, hi, cur, by rw [List.length_take, Nat.min_eq_left hhi], hg, hheap, by rw [List.length_take]; omega, by omega, ?_, ?_⟩⟩, fun b hb => (by rw [hv]; exact hb), some ⟨g, 0, none⟩, rfl, fun h => (by cases h)⟩
      · have : hi * sz ≤ cap * sz := Nat.mul_le_mul_right _ (by omega)
        omega
      · rw [List.length_take, Nat.min_eq_left hhi, ← ht, List.take_take, Nat.min_eq_left hmul]
  obtain ⟨hrow, hob, ad, hxs, had⟩ := hrow
  let o : Own := ⟨x, (E.own id).blk, sz⟩
  let E' : Env := { ver := upd E.ver id (st.ver id + 1), own := upd E.own id o, S := E.S, w := E.w }
  have hle : E.Le E' := by
    refine ⟨fun _ h => h, fun b hb => rfl, fun j => by by_cases h : j = id <;> simp [E', upd, h, hve], fun j hj => ?_⟩
    by_cases h : j = id
    · subst h; simp [E', upd, hve] at hj
    · simp [E', upd, h]
  refine ⟨E', ?_, ?_, .ref _ _ _ (by simp [E', upd]) fun _ => by simp [E', upd, o]⟩
  · rw [hxs]
    rcases hysrc with ⟨rfl, _⟩ | ⟨ay, c, us', rfl, _, _, _⟩
    · exact run_append_zero E.w t ty e i hu hi' ad none _ _ (Nat.le_refl _) 0 (fun _ => rfl) fun h => ⟨had h, had h⟩
    · exact run_append_zero E.w t ty e i hu hi' ad (some ay) _ _ (Nat.le_refl _) c (by simp) fun h => ⟨had h, had h⟩
  · refine hr.own id (.arr e sz (xs.take hi)) o (st.ver id + 1) rfl (by omega) rfl (fun h => by omega) rfl hr.below (Nat.le_refl _) (fun b hb _ => rfl) ?_ fun b hb => .inl (by rw [hh]; exact hob b hb)
    refine ⟨rfl, us.take (hi * sz), hrow, fun c hc => hlen c (List.mem_of_mem_take hc), ?_, fun b hb => ⟨(hblk b (hob b hb)).1, (hblk b (hob b hb)).2⟩⟩
    rw [flat_take hlen hhi]
    refine ⟨by rw [List.length_take, List.length_take, hvs.1], fun i c u hc hu => ?_⟩
    rw [List.getElem?_take] at hc hu
    split at hc
    · rename_i h1; rw [if_pos h1] at hu; exact (hvs.2 i c u hc hu).mono hle
    · cases hc
/-- An append to a part of an own array that has no spare room: what is appended goes to a new array. -/
theorem appendOsl_sound (hr : Rel G st E a) {t ty : TypeId} {id0 e sz bytes id lo hi : Nat} {q : AV} {x y : Value} {xs ys : List AV} (hh : st.h id0 = .arr e sz xs) (hlh : lo ≤ hi) (hhi : hi ≤ xs.length) (hx : VR E (.osl id0 (st.ver id0) lo hi true) x) (hy : VR E q y)
    (he : tElem G.P t = some e) (hs : tSize G.P e = some sz) (hb : tBytes G.P e = some bytes) (hz : (tZero G.P e).map (·.cells.size) = some sz) (hpos : 0 < sz)
    (hsrc : srcAV st sz q = some ys) (hok : ∀ c ∈ ys, okCells st c = true) (hne : ys ≠ []) (hn : (hi - lo + ys.length) * bytes ≤ 140737488355328) (hn' : hi - lo + ys.length ≤ maxLen) :
    ∃ x' E', (Builtin.append_ #[t, t] ty #[x, y]).run G.P E.w = .ok x' E'.w ∧ Rel G (st.setArr id e sz ((xs.drop lo).take (hi - lo) ++ ys)) E' a ∧ VR E' (.ref id (st.ver id + 1)) x' := by
  obtain ⟨hyl, hysrc⟩ := srcAV_sound hr hy hsrc
  obtain ⟨hxl, hxsrc⟩ := srcAV_sound (sz := sz) (ys := (xs.drop lo).take (hi - lo)) hr hx (by simp [srcAV, hh, hlh, hhi])
  have hxlen : ((xs.drop lo).take (hi - lo)).length = hi - lo := by rw [List.length_take, List.length_drop]; omega
  have hcap : ∃ ad, x = .slice ad (hi - lo) (hi - lo) := by
    cases hx with
    | osl _ _ _ _ _ _ h1 h2 =>
      rw [h2 (by rw [hr.ver])]
      have hb := hr.blocks id0
      rw [hh] at hb
      obtain ⟨hsz, us, hown, hlen, hvs, hblk⟩ := hb
      rcases hown.2 with ⟨hv, hn⟩ | ⟨g, cap, cur, hv, _⟩ <;> rw [hv, subV_slice] <;> exact ⟨_, rfl⟩
  obtain ⟨ad0, hxe⟩ := hcap
  generalize (xs.drop lo).take (hi - lo) = zs at hxl hxsrc hxlen ⊢
  have hu := tElem_eq he
  obtain ⟨i, hi', hisz⟩ := Option.map_eq_some_iff.1 hs
  have hiby : i.bytes = bytes := by have := hb; unfold tBytes at this; simpa [hi'] using this
  obtain ⟨z, hz0, hzs⟩ := Option.map_eq_some_iff.1 hz
  have hiz : i.zero = some z := by unfold tZero at hz0; simpa [hi'] using hz0
  have h1 : ∀ us' : List Value, VRs E (ys.flatMap AV.cells) us' → ∀ u ∈ us', u.oneCell' = true := by
    intro us' hvs u hu'
    obtain ⟨k, hk⟩ := List.mem_iff_getElem?.1 hu'
    have hlt : k < (ys.flatMap AV.cells).length := by rw [hvs.1]; exact (List.getElem?_eq_some_iff.1 hk).1
    have hck := List.getElem?_eq_getElem hlt
    obtain ⟨yy, hyy, hmem⟩ := List.mem_flatMap.1 (List.getElem_mem hlt)
    have := hok yy hyy
    simp only [okCells, List.all_eq_true] at this
    exact (okCell_one hr (hvs.2 k _ u hck hk) (this _ hmem)).1
  have hypos : 0 < ys.length := List.length_pos_iff.2 hne
  rw [← hxlen] at hn hn' hxe
  have hrun : ∃ x' w' us us', (Builtin.append_ #[t, t] ty #[x, y]).run G.P E.w = .ok x' w' ∧ VRs E (zs.flatMap AV.cells) us ∧ VRs E (ys.flatMap AV.cells) us' ∧ w'.ownsRow E.w.heap.size e sz x' (zs.length + ys.length) (us ++ us') ∧
      E.w.grownBy w' none := by
    rcases hysrc with ⟨rfl, rfl⟩ | ⟨ay, c, us', rfl, hul, hcell, hvs⟩
    · exact (hne rfl).elim
    · rcases hxsrc with ⟨hx0, hx1⟩ | ⟨ax, cx, us, hx0, hulx, hcellx, hvsx⟩
      · subst hx1
        rw [hx0]
        obtain ⟨v', w', hr1, ho, hgr, _⟩ := run_append_own E.w E.w.heap.size t ty e i z sz bytes hu hi' hiz hisz hiby hzs hpos (.slice none 0 0) 0 [] (World.ownsRow_nil _ _ _ _) ay _ c us' hul hcell (h1 _ hvs) (by simpa using hn') (by simpa using hn) (Nat.le_refl _)
        exact ⟨v', w', [], us', hr1, ⟨rfl, by simp⟩, hvs, by simpa using ho, hgr⟩
      · have hc : cx = zs.length := by rw [hxe] at hx0; cases hx0; rfl
        subst hc
        rw [hx0]
        obtain ⟨v', w', hr1, ho, hgr⟩ := run_append_arg_grows E.w t ty e i z sz bytes hu hi' hiz hisz hiby hzs hpos ax zs.length zs.length us hulx hcellx ay ys.length c us' hul hcell (by omega) hn' hn
        exact ⟨v', w', us, us', hr1, hvsx, hvs, ho, hgr⟩
  obtain ⟨x', w', us, us', hr1, hxv, hvs', ho, hg⟩ := hrun
  let o : Own := ⟨x', (x'.ownBlock).getD 0, sz⟩
  let E' : Env := { ver := upd E.ver id (st.ver id + 1), own := upd E.own id o, S := E.S, w := w' }
  have hve : E.ver id = st.ver id := by rw [hr.ver]
  have hle : E.Le E' := by
    refine ⟨fun _ h => h, fun b hb => hg.block b (hr.Slt b hb) (by simp), fun j => by by_cases h : j = id <;> simp [E', upd, h, hve], fun j hj => ?_⟩
    by_cases h : j = id
    · subst h; simp [E', upd, hve] at hj
    · simp [E', upd, h]
  have hnew : ∀ b, x'.ownBlock = some b → E.w.heap.size ≤ b := fun b hb => (ho.lt b hb).1
  refine ⟨x', E', hr1, ?_, .ref _ _ _ (by simp [E', upd]) fun _ => by simp [E', upd, o]⟩
  refine hr.own id (.arr e sz (zs ++ ys)) o (st.ver id + 1) rfl (by omega) rfl (fun h => by omega) rfl ?_ hg.size (fun b hb hne => hg.block b hb (by simp)) ?_ fun b hb => .inr (hnew b hb)
  · exact hr.below.grown hg hr.below.size fun k hk => by cases hk
  · refine ⟨rfl, us ++ us', by simpa using ownsRow_base ho.w hr.below.size, fun c hc => ?_, ?_, fun b hb => ⟨by simp only [o] at hb ⊢; rw [hb]; rfl, fun hS => ?_⟩⟩
    · rcases List.mem_append.1 hc with h | h
      · exact hxl c h
      · exact hyl c h
    · rw [List.flatMap_append]
      have hxv' := hxv.mono hle
      have hvs'' := hvs'.mono hle
      refine ⟨by simp [hxv'.1, hvs''.1], fun k c u hc hu' => ?_⟩
      by_cases hk : k < (zs.flatMap AV.cells).length
      · rw [List.getElem?_append_left hk] at hc
        rw [List.getElem?_append_left (by rw [← hxv.1]; exact hk)] at hu'
        exact hxv'.2 k c u hc hu'
      · rw [List.getElem?_append_right (by omega)] at hc
        rw [List.getElem?_append_right (by rw [← hxv.1]; omega), ← hxv.1] at hu'
        exact hvs''.2 _ c u hc hu'
    · have := hr.Slt b hS
      have := hnew b hb
      omega

/-! ### Stores -/

def storeSt (P : Program) (st : St) (t : TypeId) (p q : AV) : Option St :=
  match p with
  | .rptr id k i j =>
    if k = st.ver id ∧ tSize P t = some q.cells.length ∧ okCells st q = true then
      match st.h id with
      | .box cs => if i = 0 ∧ j + q.cells.length ≤ cs.length then some { st with h := upd st.h id (.box (spliceL cs j q.cells)) } else none
      | .arr e sz xs => match xs[i]? with
        | some x =>
          if j = 0 ∧ q.cells.length = sz then some { st with h := upd st.h id (.arr e sz (xs.set i q)) }
          else match x with
            | .agg cs => if j + q.cells.length ≤ cs.length then some { st with h := upd st.h id (.arr e sz (xs.set i (.agg (spliceL cs j q.cells)))) } else none
            | _ => none
        | none => none
      | _ => none
    else none
  | _ => none

theorem setRow_below {B g : Nat} {w0 w : World} (hb : Below B w0 w) (hg : B ≤ g) (cs : Array Value) : Below B w0 (w.setRow g cs) := below_setRow hb hg cs

/-- A store into the cells of an own block. -/
theorem Rel.storeAt (hr : Rel G st E a) {id : Nat} {blk' : Blk} {g o : Nat} {cur : Array Value} {ty : TypeId} {vs : List Value} (hh : E.w.heap[g]? = some (.cells cur ty (0, 0))) (hat : (st.h id).at (E.own id) = some g)
    (hfit : o + vs.length ≤ cur.size) (h1 : ∀ v ∈ vs, v.oneCell' = true) (hblk : ∀ w', (∀ b, b ≠ g → w'.heap[b]? = E.w.heap[b]?) → w'.heap[g]? = some (.cells (spliceL cur.toList o vs).toArray ty (0, 0)) →
      E.Le { E with w := w' } → BR { E with w := w' } G.w0.heap.size (E.own id) blk') (hsame : blk'.at (E.own id) = some g) :
    ∃ E', (storeCells ⟨g, o, none⟩ vs 0).run G.P E.w = .ok () E'.w ∧ Rel G { st with h := upd st.h id blk' } E' a := by
  have hst := run_storeCells_at G.P g o ty vs 0 cur E.w hh (by simpa using hfit) h1
  simp only [Nat.add_zero] at hst
  have hbnd := (hr.blocks id).at_lt hat
  let w' := E.w.setRow g (cur.toList.take o ++ vs ++ cur.toList.drop (o + vs.length)).toArray
  have hle : E.Le { E with w := w' } := ⟨fun _ h => h, fun b hb => setRow_other _ _ _ _ (fun he => hbnd.2.2 (he ▸ hb)), fun _ => Nat.le_refl _, fun _ _ => rfl⟩
  refine ⟨{ E with w := w' }, hst, ?_⟩
  have hr' := hr.own (E' := { E with w := w' }) id blk' (E.own id) (E.ver id) (by funext j; by_cases h : j = id <;> simp [upd, h]) (Nat.le_refl _) (by funext j; by_cases h : j = id <;> simp [upd, h]) (fun _ => rfl) rfl
    (below_setRow hr.below hbnd.1 _) (by simp [w']) (fun b hb hne => setRow_other _ _ _ _ (fun he => hne (he ▸ hat)))
    (hblk w' (fun b hb => setRow_other _ _ _ _ hb) (setRow_heap _ _ _ _ _ _ hh) hle) (fun b hb => .inl (by rw [hsame] at hb; cases hb; exact hat))
  have he : upd st.ver id (E.ver id) = st.ver := by funext j; by_cases h : j = id <;> simp [upd, h, hr.ver]
  rw [he] at hr'
  exact hr'

theorem flat_set {sz : Nat} (xs : List AV) (i : Nat) (x y : AV) (hlen : ∀ x ∈ xs, x.cells.length = sz) (hi : xs[i]? = some x) (hy : y.cells.length = sz) :
    (xs.set i y).flatMap AV.cells = spliceL (xs.flatMap AV.cells) (i * sz) y.cells := by
  induction xs generalizing i with
  | nil => simp at hi
  | cons z zs ih =>
    have hz := hlen z (by simp)
    cases i with
    | zero =>
      simp only [List.set_cons_zero, List.flatMap_cons, spliceL, Nat.zero_mul, List.take_zero, List.nil_append, Nat.zero_add]
      rw [List.drop_append, List.drop_eq_nil_of_le (by omega), List.nil_append, hy, hz, Nat.sub_self, List.drop_zero]
    | succ i =>
      have := ih i (fun x hx => hlen x (by simp [hx])) (by simpa using hi)
      simp only [List.set_cons_succ, List.flatMap_cons, this, spliceL]
      have e1 : (z.cells ++ zs.flatMap AV.cells).take ((i + 1) * sz) = z.cells ++ (zs.flatMap AV.cells).take (i * sz) := by
        rw [List.take_append, List.take_of_length_le (by rw [hz, Nat.succ_mul]; omega), hz, Nat.succ_mul, Nat.add_sub_cancel]
      have e2 : (z.cells ++ zs.flatMap AV.cells).drop ((i + 1) * sz + y.cells.length) = (zs.flatMap AV.cells).drop (i * sz + y.cells.length) := by
        rw [List.drop_append, List.drop_eq_nil_of_le (by rw [hz, Nat.succ_mul]; omega), List.nil_append]; congr 1; rw [hz, Nat.succ_mul]; omega
      rw [e1, e2]; simp [List.append_assoc]

theorem splice_splice {α : Type} (cs : List α) (off j n : Nat) (new : List α) (h1 : j + new.length ≤ n) (h2 : off + n ≤ cs.length) :
    spliceL cs off (spliceL ((cs.drop off).take n) j new) = spliceL cs (off + j) new := by
  have hl : ((cs.drop off).take n).length = n := by simp; omega
  apply List.ext_getElem?
  intro k
  rw [splice_get _ _ _ (by rw [splice_len _ _ _ (by omega)]; omega), splice_get _ _ _ (by omega), splice_len _ _ _ (by omega), hl]
  by_cases hk : off ≤ k ∧ k < off + n
  · rw [if_pos hk, splice_get _ _ _ (by omega)]
    by_cases hk2 : j ≤ k - off ∧ k - off < j + new.length
    · rw [if_pos hk2, if_pos (by omega)]; congr 1; omega
    · rw [if_neg hk2, if_neg (by omega), List.getElem?_take, if_pos (by omega), List.getElem?_drop]; congr 1; omega
  · rw [if_neg hk, splice_get _ _ _ (by omega), if_neg (by omega)]

theorem cells_agg (cs : List AV) : (AV.agg cs).cells = cs := rfl

theorem flat_seg {sz : Nat} (xs : List AV) (i : Nat) (x : AV) (hlen : ∀ x ∈ xs, x.cells.length = sz) (hi : xs[i]? = some x) : ((xs.flatMap AV.cells).drop (i * sz)).take sz = x.cells := by
  have hx := hlen x (List.mem_of_getElem? hi)
  apply List.ext_getElem?
  intro k
  rw [List.getElem?_take, List.getElem?_drop]
  by_cases hk : k < sz
  · rw [if_pos hk, flat_get xs i x k hlen hi hk]
  · rw [if_neg hk, List.getElem?_eq_none (by omega)]

theorem ownsRow_setRow {w w' : World} {base : Nat} {e : TypeId} {size : Nat} {v : Value} {n : Nat} {xs ys : List Value} {g : Nat} {cur : Array Value} {ty : TypeId} {o : Nat} {vs : List Value} (h : w.ownsRowW base e size v n xs) (hg : v.ownBlock = some g)
    (hh : w.heap[g]? = some (.cells cur ty (0, 0))) (hw : w'.heap[g]? = some (.cells (spliceL cur.toList o vs).toArray ty (0, 0))) (hfit : o + vs.length ≤ xs.length) (hys : ys = spliceL xs o vs) : w'.ownsRowW base e size v n ys := by
  subst hys
  rcases h.2 with ⟨hv, _⟩ | ⟨g', cap, cur', hv, hb, hh', hn, hc, hs, ht⟩
  · rw [hv] at hg; cases hg
  · have : g' = g := by rw [hv] at hg; simpa [Value.ownBlock] using hg
    subst this
    rw [hh] at hh'
    simp only [Option.some.injEq, Obj.cells.injEq, and_true] at hh'
    obtain ⟨rfl, rfl⟩ := hh'
    have hxl := h.1
    have hmul : n * size ≤ cap * size := Nat.mul_le_mul_right _ hn
    refine ⟨by rw [splice_len _ _ _ hfit]; exact hxl, .inr ⟨g', cap, _, hv, hb, hw, hn, hc, ?_, ?_⟩⟩
    · simp only [List.size_toArray]; rw [splice_len _ _ _ (by simp; omega)]; simpa using hs
    · rw [← ht]
      apply List.ext_getElem?
      intro k
      simp only [List.getElem?_take]
      rw [splice_get _ _ _ (by simp; omega), splice_get _ _ _ (by simp; omega)]
      by_cases hk : k < n * size
      · rw [if_pos hk]
        split
        · rfl
        · rw [List.getElem?_take, if_pos hk]
      · rw [if_neg hk]
        split
        · rename_i h2; rw [List.getElem?_eq_none (by omega)]
        · rw [List.getElem?_take, if_neg hk]

theorem storeSt_sound (hr : Rel G st E a) {t : TypeId} {p q : AV} {x y : Value} {st' : St} (hx : VR E p x) (hy : VR E q y) (h : storeSt G.P st t p q = some st') :
    ∃ E', (Instr.storeAt t x y).run G.P E.w = .ok () E'.w ∧ Rel G st' E' a := by
  unfold storeSt at h
  split at h
  case h_2 => cases h
  rename_i id k i j
  split at h
  case isFalse => cases h
  rename_i hc
  obtain ⟨hk, hsz, hok⟩ := hc
  obtain ⟨hqv, hone⟩ := okCells_spec hr hy hok
  have hyl : y.cells.size = q.cells.length := by simpa using hqv.1.symm
  have hyl' : y.cells.toList.length = q.cells.length := hqv.1.symm
  cases hx with
  | rptr _ _ _ _ _ h1 h2 =>
    have hx := h2 (by rw [hr.ver]; exact hk)
    subst hx
    have hbk := hr.blocks id
    have hstore : ∀ E' : Env, (storeCells ⟨(E.own id).blk, i * (E.own id).sz + j, none⟩ y.cells.toList 0).run G.P E.w = .ok () E'.w →
        (Instr.storeAt t (.pointer (some ⟨(E.own id).blk, i * (E.own id).sz + j, none⟩)) y).run G.P E.w = .ok () E'.w := by
      intro E' he
      simp [Instr.storeAt, Instr.sureAddr, storeVar, run_sizeOf hsz, hyl, he]
    split at h
    · rename_i cs hh
      split at h
      case isFalse => cases h
      rename_i hfit
      cases h
      obtain ⟨rfl, hfit⟩ := hfit
      have hbk0 := hbk
      rw [hh] at hbk
      obtain ⟨us, ty, hheap, hb1, hb2, hvs⟩ := hbk
      have hul : us.size = cs.length := by simpa using hvs.1.symm
      obtain ⟨E', he, hr'⟩ := hr.storeAt (id := id) (blk' := .box (spliceL cs j q.cells)) (g := (E.own id).blk) (o := j) (vs := y.cells.toList) hheap (by rw [hh]; rfl) (by rw [hyl', hul]; exact hfit) hone
        (fun w' _ hw hle => ⟨_, ty, hw, hb1, hb2, by simpa using ((hvs.mono hle).splice (hqv.mono hle) hfit)⟩) rfl
      exact ⟨E', hstore E' (by rw [Nat.zero_mul, Nat.zero_add]; exact he), hr'⟩
    · rename_i e sz xs hh
      have hbk0 := hbk
      rw [hh] at hbk
      obtain ⟨hsz', us, hown, hlen, hvs, hblk⟩ := hbk
      split at h
      case h_2 => cases h
      rename_i x hxi
      have hil : i < xs.length := (List.getElem?_eq_some_iff.1 hxi).1
      have hxl := hlen x (List.mem_of_getElem? hxi)
      have hul : us.length = xs.length * sz := by rw [← hvs.1, flat_length xs hlen]
      have hmul : i * sz + sz ≤ xs.length * sz := by rw [← Nat.succ_mul]; exact Nat.mul_le_mul_right _ hil
      -- the block
      have hgex : ∃ g cur, (E.own id).val.ownBlock = some g ∧ E.w.heap[g]? = some (.cells cur e (0, 0)) ∧ us.length ≤ cur.size := by
        rcases hown.2 with ⟨hv, hn⟩ | ⟨g, cap, cur, hv, _, hg, hn, _, hcs, _⟩
        · omega
        · exact ⟨g, cur, by rw [hv]; rfl, hg, by rw [hul]; exact Nat.le_trans (Nat.mul_le_mul_right _ hn) hcs⟩
      obtain ⟨g, cur, hgb, hheap, hcur⟩ := hgex
      obtain ⟨hg1, hg2⟩ := hblk g hgb
      have fin : ∀ (y' : AV) (jj : Nat), y'.cells.length = sz → jj + q.cells.length ≤ sz → spliceL (xs.flatMap AV.cells) (i * sz) y'.cells = spliceL (xs.flatMap AV.cells) (i * sz + jj) q.cells → jj = j →
          ∃ E', (Instr.storeAt t (.pointer (some ⟨(E.own id).blk, i * (E.own id).sz + j, none⟩)) y).run G.P E.w = .ok () E'.w ∧ Rel G { st with h := upd st.h id (.arr e sz (xs.set i y')) } E' a := by
        intro y' jj hy'l hjj hspl hj
        subst hj
        obtain ⟨E', he, hr'⟩ := hr.storeAt (id := id) (blk' := .arr e sz (xs.set i y')) (g := g) (o := i * sz + jj) (vs := y.cells.toList) hheap (by rw [hh]; exact hgb) (by rw [hyl']; omega) hone
          (fun w' _ hw hle => by
            refine ⟨hsz', spliceL us (i * sz + jj) y.cells.toList, ?_, ?_, ?_, fun b hb => hblk b hb⟩
            · rw [List.length_set]
              exact ownsRow_setRow hown hgb hheap hw (by rw [hyl']; omega) rfl
            · intro c hc
              rcases List.mem_or_eq_of_mem_set hc with h | h
              · exact hlen c h
              · subst h; exact hy'l
            · rw [flat_set xs i x y' hlen hxi hy'l, hspl]
              exact (hvs.mono hle).splice (hqv.mono hle) (by rw [flat_length xs hlen]; omega)) hgb
        exact ⟨E', hstore E' (by rw [hsz', hg1]; exact he), hr'⟩
      split at h
      · rename_i hj
        cases h
        exact fin q 0 hj.2 (by omega) (by rw [Nat.add_zero]) hj.1.symm
      · split at h
        · rename_i cs
          split at h
          case isFalse => cases h
          rename_i hfit
          cases h
          simp only [cells_agg] at hxl
          refine fin (.agg (spliceL cs j q.cells)) j (by simp only [cells_agg]; rw [splice_len _ _ _ hfit]; exact hxl) (by omega) ?_ rfl
          have hseg := flat_seg xs i _ hlen hxi
          simp only [cells_agg] at hseg ⊢
          rw [← hseg]
          exact splice_splice _ _ _ _ _ (by omega) (by rw [flat_length xs hlen]; exact hmul)
        · cases h
    · cases h

/-! ### A part of an own array is cleared -/

theorem flat_rep (c : List Value) (h0 : 0 < c.length) : ∀ (n t : Nat), ((List.replicate n c).flatten)[t]? = if t < n * c.length then c[t % c.length]? else none
  | 0, t => by simp
  | n + 1, t => by
    rw [List.replicate_succ, List.flatten_cons]
    have hm : (n + 1) * c.length = n * c.length + c.length := Nat.succ_mul _ _
    by_cases ht : t < c.length
    · rw [List.getElem?_append_left ht, if_pos (by omega), Nat.mod_eq_of_lt ht]
    · rw [List.getElem?_append_right (by omega), flat_rep c h0 n (t - c.length)]
      have : (t - c.length) % c.length = t % c.length := (Nat.mod_eq_sub_mod (by omega)).symm
      rw [this]
      by_cases h : t < (n + 1) * c.length
      · rw [if_pos h, if_pos (by omega)]
      · rw [if_neg h, if_neg (by omega)]
theorem zeroCells_list (z : Array Value) (h0 : 0 < z.size) (n : Nat) : (Builtin.zeroCells z n).toList = (List.replicate n z.toList).flatten := by
  apply List.ext_getElem?
  intro t
  rw [flat_rep _ (by simpa using h0)]
  simp only [Builtin.zeroCells, Array.toList_map, Array.toList_range, List.getElem?_map, Array.length_toList]
  by_cases ht : t < n * z.size
  · rw [if_pos ht, List.getElem?_range ht, Option.map_some]
    have hm : t % z.size < z.size := Nat.mod_lt _ h0
    rw [getElem!_pos z (t % z.size) hm, Array.getElem?_toList, Array.getElem?_eq_getElem hm]
  · rw [if_neg ht, List.getElem?_eq_none (by simpa using Nat.le_of_not_lt ht), Option.map_none]
theorem flat_cleared {sz lo hi : Nat} {xs : List AV} {A : AV} (hlen : ∀ x ∈ xs, x.cells.length = sz) (hA : A.cells.length = sz) (hlh : lo ≤ hi) (hhx : hi ≤ xs.length) :
    (xs.take lo ++ List.replicate (hi - lo) A ++ xs.drop hi).flatMap AV.cells = spliceL (xs.flatMap AV.cells) (lo * sz) ((List.replicate (hi - lo) A).flatMap AV.cells) := by
  have hrl : ((List.replicate (hi - lo) A).flatMap AV.cells).length = (hi - lo) * sz := by
    rw [flat_length _ (sz := sz) fun x hx => by rw [List.eq_of_mem_replicate hx]; exact hA]; simp
  have hm : lo * sz + (hi - lo) * sz = hi * sz := by rw [← Nat.add_mul]; congr 1; omega
  unfold spliceL
  rw [List.flatMap_append, List.flatMap_append, flat_take hlen (by omega), flat_drop hlen hhx, hrl, hm]
theorem rep_vrs (E : Env) (z : Value) (n : Nat) : VRs E ((List.replicate n (AV.agg (valCells z))).flatMap AV.cells) (List.replicate n z.cells.toList).flatten := by
  have : (List.replicate n (AV.agg (valCells z))).flatMap AV.cells = ((List.replicate n z.cells.toList).flatten).map AV.v := by
    rw [List.flatMap_def, List.map_replicate, List.map_flatten, List.map_replicate]; rfl
  rw [this]
  refine ⟨by simp, fun i c u hc hu => ?_⟩
  rw [List.getElem?_map, hu] at hc
  cases hc; exact .v u
theorem clear_sound (hr : Rel G st E a) {t ty e sz id lo hi : Nat} {f : Bool} {x z : Value} {xs : List AV} (hh : st.h id = .arr e sz xs) (hx : VR E (.osl id (st.ver id) lo hi f) x) (hlh : lo ≤ hi) (hhx : hi ≤ xs.length)
    (hte : tElem G.P t = some e) (hz : tZero G.P e = some z) (h1 : z.cells.toList.all (·.oneCell') = true) (hzs : z.cells.size = sz) (hpos : 0 < sz) :
    ∃ E', (Builtin.clear_ #[t] ty #[x]).run G.P E.w = .ok (.tuple #[]) E'.w ∧ Rel G { st with h := upd st.h id (.arr e sz (xs.take lo ++ List.replicate (hi - lo) (.agg (valCells z)) ++ xs.drop hi)) } E' a := by
  have hsame : xs.take lo ++ List.replicate (hi - lo) (AV.agg (valCells z)) ++ xs.drop hi = xs → Rel G { st with h := upd st.h id (.arr e sz (xs.take lo ++ List.replicate (hi - lo) (.agg (valCells z)) ++ xs.drop hi)) } E a := by
    intro he
    rw [he, ← hh]
    have : ({ st with h := upd st.h id (st.h id) } : St) = st := by
      have : upd st.h id (st.h id) = st.h := by funext j; by_cases h : j = id <;> simp [upd, h]
      rw [this]
    rw [this]; exact hr
  cases hx with
  | osl _ _ _ _ _ _ g1 g2 =>
    have hx := g2 (by rw [hr.ver])
    subst hx
    have hb := hr.blocks id
    rw [hh] at hb
    obtain ⟨hsz', us, hown, hlen, hvs, hblk⟩ := hb
    rcases hown.2 with ⟨hv, hn⟩ | ⟨g, cap, cur, hv, hg0, hheap, hnc, hcm, hcs, ht⟩
    · have hxe : xs = [] := List.eq_nil_of_length_eq_zero hn
      subst hxe
      have h0 : hi = 0 := by simpa using hhx
      have h01 : lo = 0 := by omega
      subst h0; subst h01
      refine ⟨E, ?_, hsame (by simp)⟩
      rw [hv, subV_slice]
      have : (if (if f = true then (0 : Nat) else 0) = 0 then (none : Option Addr) else Option.map (fun x : Addr => x.add (0 * (E.own id).sz)) none) = none := by split <;> rfl
      rw [this]
      simp [Builtin.clear_, run_underlying (tElem_eq hte)]
    · by_cases he : hi = lo
      · refine ⟨E, ?_, hsame (by rw [he]; simp)⟩
        rw [hv, subV_slice]
        have h00 : hi - lo = 0 := by omega
        rw [h00]
        generalize (if f = true then hi else cap) = C
        by_cases hC : C = lo
        · rw [if_pos hC]; simp [Builtin.clear_, run_underlying (tElem_eq hte)]
        · rw [if_neg hC, Option.map_some]; simp [Builtin.clear_, run_underlying (tElem_eq hte)]
      · have hne : ¬ (if f = true then hi else cap) = lo := by
          intro hc
          cases f <;> simp at hc <;> omega
        have hgb : (E.own id).val.ownBlock = some g := by rw [hv]; rfl
        obtain ⟨hb1, hb2⟩ := hblk g hgb
        have hul : us.length = xs.length * sz := hown.1
        have hAl : (AV.agg (valCells z)).cells.length = sz := by show (valCells z).length = sz; simp [valCells, hzs]
        have hvl : ((List.replicate (hi - lo) z.cells.toList).flatten).length = (hi - lo) * sz := by simp [hzs]
        have hm1 : lo * sz + (hi - lo) * sz = hi * sz := by rw [← Nat.add_mul]; congr 1; omega
        have hm2 : hi * sz ≤ xs.length * sz := Nat.mul_le_mul_right _ hhx
        have hcur : us.length ≤ cur.size := by rw [hul]; exact Nat.le_trans (Nat.mul_le_mul_right _ hnc) hcs
        obtain ⟨E', hrun, hr'⟩ := hr.storeAt (id := id) (blk' := .arr e sz (xs.take lo ++ List.replicate (hi - lo) (.agg (valCells z)) ++ xs.drop hi)) (g := g) (o := lo * sz) (vs := (List.replicate (hi - lo) z.cells.toList).flatten) hheap (by rw [hh]; exact hgb) (by rw [hvl]; omega)
          (fun v hv => by
            obtain ⟨l, hl, hvl⟩ := List.mem_flatten.1 hv
            rw [List.eq_of_mem_replicate hl] at hvl
            exact List.all_eq_true.1 h1 v hvl)
          (fun w' _ hw hle => by
            refine ⟨hsz', spliceL us (lo * sz) (List.replicate (hi - lo) z.cells.toList).flatten, ?_, ?_, ?_, fun b hb => hblk b hb⟩
            · have hll : (xs.take lo ++ List.replicate (hi - lo) (AV.agg (valCells z)) ++ xs.drop hi).length = xs.length := by simp; omega
              rw [hll]
              exact ownsRow_setRow hown hgb hheap hw (by rw [hvl]; omega) rfl
            · intro c hc
              rcases List.mem_append.1 hc with hc | hc
              · rcases List.mem_append.1 hc with hc | hc
                · exact hlen c (List.mem_of_mem_take hc)
                · rw [List.eq_of_mem_replicate hc]; exact hAl
              · exact hlen c (List.mem_of_mem_drop hc)
            · rw [flat_cleared hlen hAl hlh hhx]
              refine (hvs.mono hle).splice (rep_vrs _ z _) ?_
              rw [flat_length xs hlen, flat_length _ (sz := sz) fun x hx => by rw [List.eq_of_mem_replicate hx]; exact hAl]
              simp only [List.length_replicate]; omega) hgb
        refine ⟨E', ?_, hr'⟩
        rw [hv, subV_slice, if_neg hne, Option.map_some, add_none, Nat.zero_add, hsz']
        obtain ⟨m, hm⟩ : ∃ m, hi - lo = m + 1 := ⟨hi - lo - 1, by omega⟩
        rw [hm] at hrun ⊢
        simp only [Builtin.clear_, List.getElem?_toArray, List.getElem?_cons_zero, Sem.run_bind, run_underlying (tElem_eq hte), Result.andThen_ok, run_zeroValue0 hz, zeroCells_list _ (by omega : 0 < z.cells.size)]
        simp [hrun, run_underlying (tElem_eq hte), run_zeroValue0 hz, zeroCells_list _ (by omega : 0 < z.cells.size)]
end
end Go.Abs
