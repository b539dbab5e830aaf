/- The proof layer, part 1: abstract values, what they stand for in a world, abstract states, and the rules for control. No condition. -/
import Derived.WalkKit
import Derived.WalkSpells
import Derived.WalkLawsBesides
import Derived.Deep.LoopGhost
import Derived.StillTail
import Derived.Great.BuildSlice
import Derived.Laws.Tables
import Derived.Laws.Cover3
import Derived.Laws.CopyOwn
import Derived.Laws.AppendOwnNone
import Derived.RangeFuncRecord
import Derived.TacticsIn
import Derived.OrdersIn
namespace Go
/-- The slice value owns the first cells of its block. -/
def World.ownsRowW (w : World) (base : Nat) (e : TypeId) (size : Nat) (v : Value) (n : Nat) (xs : List Value) : Prop :=
  xs.length = n * size ∧
  ((v = .slice none 0 0 ∧ n = 0) ∨
   ∃ g cap cur, v = .slice (some ⟨g, 0, none⟩) n cap ∧ base ≤ g ∧ w.heap[g]? = some (.cells cur e (0, 0)) ∧ n ≤ cap ∧ cap ≤ maxLen ∧ cap * size ≤ cur.size ∧ cur.toList.take (n * size) = xs)
theorem World.ownsRow.w {w : World} {base : Nat} {e : TypeId} {size : Nat} {v : Value} {n : Nat} {xs : List Value} (h : w.ownsRow base e size v n xs) : w.ownsRowW base e size v n xs :=
  ⟨h.1, h.2.imp id fun ⟨g, cap, cur, h1, h2, h3, h4, h5, h6, h7⟩ => ⟨g, cap, cur, h1, h2, h3, h4, h5, Nat.le_of_eq h6.symm, h7⟩⟩
theorem World.ownsRowW_nil (w : World) (base : Nat) (e : TypeId) (size : Nat) : w.ownsRowW base e size (.slice none 0 0) 0 [] := (World.ownsRow_nil w base e size).w
theorem World.ownsRowW.lt {w : World} {base : Nat} {e : TypeId} {size : Nat} {v : Value} {n : Nat} {xs : List Value} (h : w.ownsRowW base e size v n xs) : ∀ k, v.ownBlock = some k → base ≤ k ∧ k < w.heap.size := by
  intro k hk
  rcases h.2 with ⟨rfl, _⟩ | ⟨g, cap, cur, rfl, hb, hg, _⟩
  · cases hk
  · simp only [Value.ownBlock, Option.some.injEq] at hk
    subst hk
    exact ⟨hb, (Array.getElem?_eq_some_iff.1 hg).1⟩
theorem World.ownsRowW.cells {w : World} {base : Nat} {e : TypeId} {size : Nat} {v : Value} {n : Nat} {xs : List Value} (h : w.ownsRowW base e size v n xs) {g : Nat} (hg : v.ownBlock = some g) : ∀ j u, xs[j]? = some u → w.cell? ((⟨g, 0, none⟩ : Addr).add j) = some u := by
  rcases h.2 with ⟨rfl, _⟩ | ⟨g', cap, cur, rfl, hb, hgg, hn, hc, hs, ht⟩
  · cases hg
  · simp only [Value.ownBlock, Option.some.injEq] at hg
    subst hg
    intro j u hu
    rw [show (⟨g', 0, none⟩ : Addr).add j = ⟨g', j, none⟩ by unfold Addr.add; split <;> simp_all, cell_of_row w g' j cur e (0, 0) hgg]
    rw [← ht, List.getElem?_take] at hu
    split at hu
    · simpa using hu
    · cases hu
end Go
namespace Go.Abs
open Go Go.RowKit

/-- An abstract value. -/
inductive AV where
  | junk
  | v (x : Value)
  | agg (cs : List AV)
  | tup (vs : List AV)
  | lst (sz : Nat) (xs : List AV)
  | eptr (cs : List AV) (j : Nat)
  | ref (id ver : Nat)
  | rptr (id ver i j : Nat)
  | fn (f : Fn) (first captured : List AV)
  | fresh (e sz : Nat) (xs : List AV)
  | mapv (es : Array MapEntry) (clk : Nat)
  | full (sz : Nat) (xs : List AV)
  | osl (id ver lo hi : Nat) (full : Bool)
  deriving Inhabited

def AV.cells : AV → List AV
  | .agg cs => cs
  | a => [a]

/-- A part of a slice value; 'full': without spare room. -/
def subV (x : Value) (sz lo hi : Nat) (full : Bool) : Value :=
  match x with
  | .slice ad _ c => .slice (if (if full = true then hi else c) = lo then ad else ad.map (·.add (lo * sz))) (hi - lo) ((if full = true then hi else c) - lo)
  | x => x

theorem subV_slice (ad : Option Addr) (n c sz lo hi : Nat) (full : Bool) : subV (.slice ad n c) sz lo hi full = .slice (if (if full = true then hi else c) = lo then ad else ad.map (·.add (lo * sz))) (hi - lo) ((if full = true then hi else c) - lo) := rfl

structure Own where
  val : Value
  blk : Nat
  sz : Nat

structure Env where
  ver : Nat → Nat
  own : Nat → Own
  S : Nat → Prop
  w : World

/-- 'In this environment the value stands for the abstract value.' -/
inductive VR (E : Env) : AV → Value → Prop
  | junk (x : Value) : VR E .junk x
  | v (x : Value) : VR E (.v x) x
  | agg (cs : List AV) (us : Array Value) : cs.length = us.size → (∀ (i : Nat) c, cs[i]? = some c → VR E c (us.getD i undef)) → VR E (.agg cs) (.agg us)
  | tup (cs : List AV) (us : Array Value) : cs.length = us.size → (∀ (i : Nat) c, cs[i]? = some c → VR E c (us.getD i undef)) → VR E (.tup cs) (.tuple us)
  | lst (sz : Nat) (xs : List AV) (b off cap : Nat) (u : Nat → Value) : E.S b → xs.length ≤ cap → cap ≤ maxLen →
      (∀ k, k < xs.length * sz → E.w.cell? ⟨b, off + k, none⟩ = some (u k)) → (∀ (i : Nat) x, xs[i]? = some x → x.cells.length = sz) →
      (∀ (i : Nat) x (j : Nat) c, xs[i]? = some x → x.cells[j]? = some c → VR E c (u (i * sz + j))) → VR E (.lst sz xs) (.slice (some ⟨b, off, none⟩) xs.length cap)
  | lstNil (sz : Nat) : VR E (.lst sz []) (.slice none 0 0)
  | lstNo (sz cap : Nat) (ad : Addr) : cap ≤ maxLen → VR E (.lst sz []) (.slice (some ad) 0 cap)
  | eptr (cs : List AV) (j b off : Nat) (u : Nat → Value) : E.S b → (∀ k, k < cs.length → E.w.cell? ⟨b, off + k, none⟩ = some (u k)) →
      (∀ (k : Nat) c, cs[k]? = some c → VR E c (u k)) → VR E (.eptr cs j) (.pointer (some ⟨b, off + j, none⟩))
  | ref (id k : Nat) (x : Value) : k ≤ E.ver id → (k = E.ver id → x = (E.own id).val) → VR E (.ref id k) x
  | rptr (id k i j : Nat) (x : Value) : k ≤ E.ver id → (k = E.ver id → x = .pointer (some ⟨(E.own id).blk, i * (E.own id).sz + j, none⟩)) → VR E (.rptr id k i j) x
  | fn (f : Fn) (first captured : List AV) (us vs : Array Value) : first.length = us.size → captured.length = vs.size →
      (∀ (i : Nat) c, first[i]? = some c → VR E c (us.getD i undef)) → (∀ (i : Nat) c, captured[i]? = some c → VR E c (vs.getD i undef)) → VR E (.fn f first captured) (.func f us vs)
  | mapv (es : Array MapEntry) (clk b : Nat) : E.S b → E.w.heap[b]? = some (.map es clk) → VR E (.mapv es clk) (.map (some b))
  | full (sz : Nat) (xs : List AV) (ad : Option Addr) : VR E (.lst sz xs) (.slice ad xs.length xs.length) → VR E (.full sz xs) (.slice ad xs.length xs.length)
  | osl (id k lo hi : Nat) (full : Bool) (x : Value) : k ≤ E.ver id → (k = E.ver id → x = subV (E.own id).val (E.own id).sz lo hi full) → VR E (.osl id k lo hi full) x

/-- One environment later than another. -/
structure Env.Le (E E' : Env) : Prop where
  S : ∀ b, E.S b → E'.S b
  heap : ∀ b, E.S b → E'.w.heap[b]? = E.w.heap[b]?
  ver : ∀ id, E.ver id ≤ E'.ver id
  own : ∀ id, E'.ver id = E.ver id → E'.own id = E.own id

theorem Env.Le.refl (E : Env) : E.Le E := ⟨fun _ h => h, fun _ _ => rfl, fun _ => Nat.le_refl _, fun _ _ => rfl⟩
theorem Env.Le.trans {A B C : Env} (h : A.Le B) (k : B.Le C) : A.Le C :=
  ⟨fun b hb => k.S b (h.S b hb), fun b hb => (k.heap b (h.S b hb)).trans (h.heap b hb), fun id => Nat.le_trans (h.ver id) (k.ver id), fun id he => by
    have h1 := h.ver id; have h2 := k.ver id
    rw [k.own id (by omega), h.own id (by omega)]⟩

theorem VR.mono {E E' : Env} (hle : E.Le E') {a : AV} {x : Value} (h : VR E a x) : VR E' a x := by
  induction h with
  | junk x => exact .junk x
  | v x => exact .v x
  | agg cs us hl _ ih => exact .agg cs us hl ih
  | tup cs us hl _ ih => exact .tup cs us hl ih
  | lst sz xs b off cap u hS h1 h2 h3 h4 _ ih =>
    exact .lst sz xs b off cap u (hle.S b hS) h1 h2 (fun k hk => by rw [World.cell?_of_block (w := E.w) (hle.heap b hS)]; exact h3 k hk) h4 ih
  | lstNil sz => exact .lstNil sz
  | lstNo sz cap ad h => exact .lstNo sz cap ad h
  | eptr cs j b off u hS h1 _ ih => exact .eptr cs j b off u (hle.S b hS) (fun k hk => by rw [World.cell?_of_block (w := E.w) (hle.heap b hS)]; exact h1 k hk) ih
  | ref id k x h1 h2 =>
    have := hle.ver id
    exact .ref id k x (by omega) fun hk => by rw [hle.own id (by omega)]; exact h2 (by omega)
  | rptr id k i j x h1 h2 =>
    have := hle.ver id
    exact .rptr id k i j x (by omega) fun hk => by rw [hle.own id (by omega)]; exact h2 (by omega)
  | fn f first captured us vs h1 h2 _ _ ih1 ih2 => exact .fn f first captured us vs h1 h2 ih1 ih2
  | mapv es clk b hS h1 => exact .mapv es clk b (hle.S b hS) (by rw [hle.heap b hS]; exact h1)
  | full sz xs ad _ ih => exact .full sz xs ad ih
  | osl id k lo hi full x h1 h2 =>
    have := hle.ver id
    exact .osl id k lo hi full x (by omega) fun hk => by rw [hle.own id (by omega)]; exact h2 (by omega)

/-- An abstract value that names no block of the caller's own. -/
def Pure (a : AV) : Prop := ∀ (ver ver' : Nat → Nat) (own own' : Nat → Own) (S : Nat → Prop) (w : World) (x : Value), VR ⟨ver, own, S, w⟩ a x → VR ⟨ver', own', S, w⟩ a x
/-- An abstract value that names no memory at all. -/
def Flat (a : AV) : Prop := ∀ (E E' : Env) (x : Value), VR E a x → VR E' a x

theorem Flat.pure {a : AV} (h : Flat a) : Pure a := fun _ _ _ _ _ _ _ hx => h _ _ _ hx
theorem flat_v (x : Value) : Flat (.v x) := fun _ _ _ h => by cases h; exact .v _
theorem flat_junk : Flat .junk := fun _ _ _ _ => .junk _
theorem pure_v (x : Value) : Pure (.v x) := (flat_v x).pure
theorem flat_agg {cs : List AV} (h : ∀ c ∈ cs, Flat c) : Flat (.agg cs) := fun E E' x hx => by
  cases hx with
  | agg _ us hl hc => exact .agg _ us hl fun i c hi => h c (List.mem_of_getElem? hi) E E' _ (hc i c hi)
theorem flat_tup {cs : List AV} (h : ∀ c ∈ cs, Flat c) : Flat (.tup cs) := fun E E' x hx => by
  cases hx with
  | tup _ us hl hc => exact .tup _ us hl fun i c hi => h c (List.mem_of_getElem? hi) E E' _ (hc i c hi)
theorem pure_agg {cs : List AV} (h : ∀ c ∈ cs, Pure c) : Pure (.agg cs) := fun ver ver' own own' S w x hx => by
  cases hx with
  | agg _ us hl hc => exact .agg _ us hl fun i c hi => h c (List.mem_of_getElem? hi) ver ver' own own' S w _ (hc i c hi)
theorem pure_tup {cs : List AV} (h : ∀ c ∈ cs, Pure c) : Pure (.tup cs) := fun ver ver' own own' S w x hx => by
  cases hx with
  | tup _ us hl hc => exact .tup _ us hl fun i c hi => h c (List.mem_of_getElem? hi) ver ver' own own' S w _ (hc i c hi)
theorem pure_lst {sz : Nat} {xs : List AV} (h : ∀ x ∈ xs, ∀ c ∈ x.cells, Pure c) : Pure (.lst sz xs) := fun ver ver' own own' S w x hx => by
  cases hx with
  | lst _ _ b off cap u h0 h1 h2 h3 h4 h5 =>
    exact .lst _ _ b off cap u h0 h1 h2 h3 h4 fun i x j c hi hj => h x (List.mem_of_getElem? hi) c (List.mem_of_getElem? hj) ver ver' own own' S w _ (h5 i x j c hi hj)
  | lstNil => exact .lstNil _
  | lstNo _ _ _ hc => exact .lstNo _ _ _ hc
theorem pure_eptr {cs : List AV} {j : Nat} (h : ∀ c ∈ cs, Pure c) : Pure (.eptr cs j) := fun ver ver' own own' S w x hx => by
  cases hx with
  | eptr _ _ b off u h0 h1 h2 => exact .eptr _ _ b off u h0 h1 fun i c hi => h c (List.mem_of_getElem? hi) ver ver' own own' S w _ (h2 i c hi)
theorem pure_fn {f : Fn} {first captured : List AV} (h : ∀ c ∈ first, Pure c) (h' : ∀ c ∈ captured, Pure c) : Pure (.fn f first captured) := fun ver ver' own own' S w x hx => by
  cases hx with
  | fn _ _ _ us vs h1 h2 h3 h4 =>
    exact .fn _ _ _ us vs h1 h2 (fun i c hi => h c (List.mem_of_getElem? hi) ver ver' own own' S w _ (h3 i c hi)) (fun i c hi => h' c (List.mem_of_getElem? hi) ver ver' own own' S w _ (h4 i c hi))
theorem pure_mapv (es : Array MapEntry) (clk : Nat) : Pure (.mapv es clk) := fun ver ver' own own' S w x hx => by
  cases hx with
  | mapv _ _ b h1 h2 => exact .mapv _ _ b h1 h2
theorem Pure.cells {a : AV} (h : Pure a) (hagg : ∀ cs, a = .agg cs → ∀ c ∈ cs, Pure c) : ∀ c ∈ a.cells, Pure c := by
  intro c hc
  cases a with
  | agg cs => exact hagg cs rfl c hc
  | _ => simp only [AV.cells, List.mem_singleton] at hc; subst hc; exact h

/-- A map as this program's own text makes it: no two entries have one stamp, or one number as key. -/
def keyI (e : MapEntry) : Int :=
  match e.key with
  | .int _ n => n
  | _ => 0
def mapOK (es : Array MapEntry) (clk : Nat) : Prop := (∀ x ∈ es.toList, x.born < clk) ∧ (es.toList.map (·.born)).Nodup
/-- What an own block holds. -/
inductive Blk where
  | none
  | arr (e sz : Nat) (xs : List AV)
  | box (cs : List AV)
  | map (es : Array MapEntry) (clk : Nat)
  | obj (x : Obj)
  | iter (es : Array MapEntry) (clk : Nat) (done : List MapEntry)
  deriving Inhabited

def VRs (E : Env) (as : List AV) (us : List Value) : Prop := as.length = us.length ∧ ∀ (i : Nat) a u, as[i]? = some a → us[i]? = some u → VR E a u

theorem VRs.mono {E E' : Env} (hle : E.Le E') {as : List AV} {us : List Value} (h : VRs E as us) : VRs E' as us := ⟨h.1, fun i a u ha hu => (h.2 i a u ha hu).mono hle⟩

def BR (E : Env) (base : Nat) (o : Own) : Blk → Prop
  | .none => True
  | .arr e sz xs => o.sz = sz ∧ ∃ us, E.w.ownsRowW base e sz o.val xs.length us ∧ (∀ x ∈ xs, x.cells.length = sz) ∧ VRs E (xs.flatMap AV.cells) us ∧ (∀ b, o.val.ownBlock = some b → o.blk = b ∧ ¬ E.S b)
  | .box cs => ∃ (us : Array Value) (t : TypeId), E.w.heap[o.blk]? = some (.cells us t (0, 0)) ∧ base ≤ o.blk ∧ ¬ E.S o.blk ∧ VRs E cs us.toList
  | .map es clk => E.w.heap[o.blk]? = some (.map es clk) ∧ o.val = .map (some o.blk) ∧ base ≤ o.blk ∧ ¬ E.S o.blk
  | .obj x => E.w.heap[o.blk]? = some x ∧ base ≤ o.blk ∧ ¬ E.S o.blk
  | .iter es clk done => ∃ b, E.S b ∧ E.w.heap[b]? = some (.map es clk) ∧ E.w.heap[o.blk]? = some (.mapIter (some b) clk (done.map (·.born)).toArray clk) ∧ base ≤ o.blk ∧ ¬ E.S o.blk ∧ mapOK es clk ∧ (∀ x ∈ done, x ∈ es.toList) ∧ o.sz = 0

def Blk.at (o : Own) : Blk → Option Nat
  | .none => .none
  | .arr .. => o.val.ownBlock
  | .box _ => some o.blk
  | .map .. => some o.blk
  | .obj _ => some o.blk
  | .iter .. => some o.blk

structure St where
  σ : Nat → AV
  ver : Nat → Nat
  h : Nat → Blk

def upd {α : Type} (f : Nat → α) (i : Nat) (x : α) : Nat → α := fun j => if j = i then x else f j
theorem upd_same {α : Type} (f : Nat → α) (i : Nat) (x : α) : upd f i x i = x := by simp [upd]
theorem upd_ne {α : Type} (f : Nat → α) {i j : Nat} (x : α) (h : j ≠ i) : upd f i x j = f j := by simp [upd, h]

/-- The frame of a function's walk. -/
structure Ctx where
  P : Program
  w0 : World
  S0 : Nat → Prop
  n : Nat
  rnd : Option Nat := none
  ids : Nat → Nat := fun d => d
  e0 : Option Env := none
/-- No fence but the round. -/
def Ctx.F (G : Ctx) : Fence := { Fence.wide with round := G.rnd }

structure Rel (G : Ctx) (st : St) (E : Env) (a : Act) : Prop where
  size : a.tmps.size = G.n
  defers : ∀ d ∈ a.defers, ∃ r, d = ⟨.collected r, #[]⟩ ∧ E.S r ∧ G.w0.heap.size ≤ r ∧ E.w.heap[r]? = some (.deferred (some [])) ∧ ∀ E0, G.e0 = some E0 → ¬ E0.S r
  once : a.defers.Pairwise (· ≠ ·)
  le0 : ∀ E0, G.e0 = some E0 → E0.Le E
  ver : E.ver = st.ver
  below : Below G.w0.heap.size G.w0 E.w
  Slt : ∀ b, E.S b → b < E.w.heap.size
  S0 : ∀ b, G.S0 b → E.S b
  Snew : ∀ b, E.S b → G.S0 b ∨ G.w0.heap.size ≤ b
  slots : ∀ j, VR E (st.σ j) (a.tmps.getD j undef)
  blocks : ∀ id, BR E G.w0.heap.size (E.own id) (st.h id)
  apart : ∀ id id' b, id ≠ id' → (st.h id).at (E.own id) = some b → (st.h id').at (E.own id') ≠ some b

theorem wpIn_loop_ghost {F : Fence} {n : Nat} {P : Program} {Q : Exit → Act → World → Prop} {a : Act} {w : World} {c : Code} (I : Nat → Act → World → Prop) (n₀ : Nat) (h₀ : I n₀ a w)
    (round : ∀ m a w, I m a w → c.wpIn F n P (Exit.then (fun a' w' => ∃ n', n' < m ∧ I n' a' w') Q) a w) : (Code.loop c).wpIn F n P Q a w := by
  refine wpIn_loop (fun a w => ∃ m, I m a w) (fun a w => leastOf (fun m => I m a w)) ⟨n₀, h₀⟩ ?_
  intro a w hI
  refine wpIn_mono (round _ a w (leastOf_spec hI).1) ?_
  intro e a' w' hq
  cases e with
  | normal =>
    obtain ⟨n', hlt, hI'⟩ := hq
    exact show (∃ m, I m a' w') ∧ leastOf (fun m => I m a' w') < leastOf (fun m => I m a w) from ⟨⟨n', hI'⟩, Nat.lt_of_le_of_lt ((leastOf_spec ⟨n', hI'⟩).2 n' hI') hlt⟩
  | exit id => exact hq
  | goto l => exact hq
  | ret => exact hq
  | panic ch => exact hq
  | outgrown => exact hq

/-- 'From this abstract state the code comes to an end that meets Q.' -/
def AWp (G : Ctx) (c : Code) (Q : Exit → St → Prop) (st : St) : Prop :=
  ∀ E a, Rel G st E a → c.wpIn G.F 0 G.P (fun e a' w' => ∃ st' E', E'.w = w' ∧ Rel G st' E' a' ∧ Q e st') a E.w

def thenA (K : St → Prop) (Q : Exit → St → Prop) : Exit → St → Prop
  | .normal, st => K st
  | e, st => Q e st

def inBlockA (id : Nat) (Q : Exit → St → Prop) : Exit → St → Prop
  | .exit id', st => if id' = id then Q .normal st else Q (.exit id') st
  | e, st => Q e st

section
variable {G : Ctx} {Q : Exit → St → Prop} {st : St}

theorem AWp.mono {c : Code} {Q' : Exit → St → Prop} (h : AWp G c Q st) (hq : ∀ e s, Q e s → Q' e s) : AWp G c Q' st :=
  fun E a hr => wpIn_mono (h E a hr) fun _ _ _ ⟨st', E', h1, h2, h3⟩ => ⟨st', E', h1, h2, hq _ _ h3⟩

theorem AWp.skip (h : Q .normal st) : AWp G .skip Q st := fun E _ hr => wpIn_skip ⟨st, E, rfl, hr, h⟩
theorem AWp.label {l : Nat} (h : Q .normal st) : AWp G (.label l) Q st := fun E _ hr => wpIn_label ⟨st, E, rfl, hr, h⟩
theorem AWp.ret (h : Q .ret st) : AWp G .ret Q st := fun E _ hr => wpIn_ret ⟨st, E, rfl, hr, h⟩
theorem AWp.exit {id : Nat} (h : Q (.exit id) st) : AWp G (.exit id) Q st := fun E _ hr => wpIn_exit ⟨st, E, rfl, hr, h⟩

theorem AWp.seq {x y : Code} (h : AWp G x (thenA (AWp G y Q) Q) st) : AWp G (.seq x y) Q st := fun E a hr =>
  wpIn_seq (wpIn_mono (h E a hr) fun e a' w' ⟨st', E', h1, h2, h3⟩ => by
    subst h1
    cases e with
    | normal => exact h3 E' a' h2
    | _ => exact ⟨st', E', rfl, h2, h3⟩)

theorem AWp.block {id : Nat} {c : Code} (h : AWp G c (inBlockA id Q) st) : AWp G (.block id c) Q st := fun E a hr =>
  wpIn_block (wpIn_mono (h E a hr) fun e a' w' ⟨st', E', h1, h2, h3⟩ => by
    cases e with
    | exit id' =>
      simp only [Exit.inBlock, inBlockA] at *
      split
      · rename_i he; rw [if_pos he] at h3; exact ⟨st', E', h1, h2, h3⟩
      · rename_i he; rw [if_neg he] at h3; exact ⟨st', E', h1, h2, h3⟩
    | _ => exact ⟨st', E', h1, h2, h3⟩)

/-- The value of an operand. -/
def St.ev (st : St) : Operand → AV
  | .tmp t => st.σ t
  | .const x => .v x
  | .global g => .v (.pointer (some ⟨g, 0, none⟩))
  | .func f => .fn (.func f) [] []

theorem Rel.ev {E : Env} {a : Act} (hr : Rel G st E a) (x : Operand) : VR E (st.ev x) (a.eval x) := by
  cases x with
  | tmp t => exact hr.slots t
  | const x => exact .v x
  | global g => exact .v _
  | func f => exact .fn _ [] [] #[] #[] rfl rfl (by simp) (by simp)

theorem AWp.cond {c : Operand} {x y : Code} {t : Bool} (hc : st.ev c = .v (.bool t)) (h : if t = true then AWp G x Q st else AWp G y Q st) : AWp G (.cond c x y) Q st := fun E a hr => by
  have hv := hr.ev c
  rw [hc] at hv
  refine wpIn_cond (t := t) (by generalize a.eval c = z at hv; cases hv; rfl) ?_
  cases t
  · exact h E a hr
  · exact h E a hr

theorem AWp.loop {c : Code} (I : Nat → St → Prop) (n₀ : Nat) (h₀ : I n₀ st)
    (round : ∀ n s, I n s → AWp G c (thenA (fun s' => ∃ n', n' < n ∧ I n' s') Q) s) : AWp G (.loop c) Q st := fun E a hr => by
  refine wpIn_loop_ghost (fun n a w => ∃ s E', E'.w = w ∧ Rel G s E' a ∧ I n s) n₀ ⟨st, E, rfl, hr, h₀⟩ ?_
  rintro n a w ⟨s, E', rfl, hr', hI⟩
  refine wpIn_mono (round n s hI E' a hr') ?_
  rintro e a' w' ⟨s', E'', rfl, h2, h3⟩
  cases e with
  | normal => obtain ⟨n', hn, hI'⟩ := h3; exact ⟨n', hn, s', E'', rfl, h2, hI'⟩
  | _ => exact ⟨s', E'', rfl, h2, h3⟩

end
end Go.Abs
