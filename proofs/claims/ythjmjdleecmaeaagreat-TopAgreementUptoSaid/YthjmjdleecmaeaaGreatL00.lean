/- Several texts of the proof in one: Fa, Fb. No condition. -/
import Derived.WalkKit
import Derived.WalkSpells
import Derived.WalkLawsBesides
import Derived.Deep.LoopGhost
import Derived.StillTail
import Derived.Great.BuildSlice
import Derived.Laws.Tables
import Derived.Laws.Cover3
import Derived.Laws.CopyOwn
import Derived.Laws.AppendOwnNone
import Derived.RangeFuncRecord
import Derived.TacticsIn
import Derived.OrdersIn
set_option linter.unusedSimpArgs false
set_option linter.unusedVariables false
set_option maxHeartbeats 4000000
set_option maxRecDepth 8000
namespace Go
def World.ownsRowW (w:World) (base:Nat) (e:TypeId) (size:Nat) (v:Value) (n:Nat) (xs:List Value):Prop :=
 xs.length=n * size ∧
 ((v=.slice none 0 0∧n=0) ∨
  ∃ g cap cur,v=.slice (some ⟨g,0,none⟩) n cap∧base≤g∧w.heap[g]? = some (.cells cur e (0,0))∧n≤cap∧cap≤maxLen∧cap * size≤cur.size∧cur.toList.take (n * size)=xs)
theorem World.ownsRow.w {w:World} {base:Nat} {e:TypeId} {size:Nat} {v:Value} {n:Nat} {xs:List Value} (h:w.ownsRow base e size v n xs):w.ownsRowW base e size v n xs :=
 ⟨h.1,h.2.imp id fun ⟨g,cap,cur,h1,h2,h3,h4,h5,h6,h7⟩=>⟨g,cap,cur,h1,h2,h3,h4,h5,Nat.le_of_eq h6.symm,h7⟩⟩
theorem World.ownsRowW_nil (w:World) (base:Nat) (e:TypeId) (size:Nat):w.ownsRowW base e size (.slice none 0 0) 0 []:=(World.ownsRow_nil w base e size).w
theorem World.ownsRowW.lt {w:World} {base:Nat} {e:TypeId} {size:Nat} {v:Value} {n:Nat} {xs:List Value} (h:w.ownsRowW base e size v n xs):∀ k,v.ownBlock=some k→base≤k∧k < w.heap.size:=by
 intro k hk
 rcases h.2 with ⟨rfl,_⟩|⟨g,cap,cur,rfl,hb,hg,_⟩
 · cases hk
 · simp only[Value.ownBlock,Option.some.injEq]at hk
   subst hk
   exact⟨hb,(Array.getElem?_eq_some_iff.1 hg).1⟩
theorem World.ownsRowW.cells {w:World} {base:Nat} {e:TypeId} {size:Nat} {v:Value} {n:Nat} {xs:List Value} (h:w.ownsRowW base e size v n xs) {g:Nat} (hg:v.ownBlock=some g):∀ j u,xs[j]? = some u→w.cell? ((⟨g,0,none⟩:Addr).add j)=some u:=by
 rcases h.2 with ⟨rfl,_⟩|⟨g',cap,cur,rfl,hb,hgg,hn,hc,hs,ht⟩
 · cases hg
 · simp only[Value.ownBlock,Option.some.injEq]at hg
   subst hg
   intro j u hu
   rw[show (⟨g',0,none⟩:Addr).add j=⟨g',j,none⟩ by unfold Addr.add;split<;>simp_all,cell_of_row w g' j cur e (0,0) hgg]
   rw[← ht,List.getElem?_take]at hu
   split at hu
   · simpa using hu
   · cases hu
end Go
namespace Go.Abs
open Go Go.RowKit
inductive AV where
 | junk
 | v (x:Value)
 | agg (cs:List AV)
 | tup (vs:List AV)
 | lst (sz:Nat) (xs:List AV)
 | eptr (cs:List AV) (j:Nat)
 | ref (id ver:Nat)
 | rptr (id ver i j:Nat)
 | fn (f:Fn) (first captured:List AV)
 | fresh (e sz:Nat) (xs:List AV)
 | mapv (es:Array MapEntry) (clk:Nat)
 | full (sz:Nat) (xs:List AV)
 | osl (id ver lo hi:Nat) (full:Bool)
 | amapv (m:Int→Option AV)
 | iface (t:TypeId) (x:AV)
 deriving Inhabited
def AV.cells:AV→List AV
 | .agg cs=>cs
 | a=>[a]
def subV (x:Value) (sz lo hi:Nat) (full:Bool):Value :=
 match x with
 | .slice ad _ c=>.slice (if (if full=true then hi else c)=lo then ad else ad.map (·.add (lo * sz))) (hi - lo) ((if full=true then hi else c) - lo)
 | x=>x
theorem ylg (ad:Option Addr) (n c sz lo hi:Nat) (full:Bool):subV (.slice ad n c) sz lo hi full=.slice (if (if full=true then hi else c)=lo then ad else ad.map (·.add (lo * sz))) (hi - lo) ((if full=true then hi else c) - lo):=rfl
def keyIs (n:Int) (e:MapEntry):Bool :=
 match e.key with
 | .int .i64 a=>n==a
 | _=>false
def zo8 (e:MapEntry):Bool :=
 match e.key with
 | .int .i64 _=>true
 | _=>false
def findI (n:Int):List MapEntry→Nat→Option (Nat×Value)
 | [],_=>none
 | e::es,i=>if keyIs n e=true then some (i,e.val) else findI n es (i+1)
def mget (es:Array MapEntry) (n:Int):Option Value:=(findI n es.toList 0).map (·.2)
def intM (es:Array MapEntry):Bool:=es.toList.all zo8
structure Own where
 val:Value
 blk:Nat
 sz:Nat
structure Env where
 ver:Nat→Nat
 own:Nat→Own
 S:Nat→Prop
 w:World
inductive VR (E:Env):AV→Value→Prop
 | junk (x:Value):VR E .junk x
 | v (x:Value):VR E (.v x) x
 | agg (cs:List AV) (us:Array Value):cs.length=us.size→(∀ (i:Nat) c,cs[i]? = some c→VR E c (us.getD i undef))→VR E (.agg cs) (.agg us)
 | tup (cs:List AV) (us:Array Value):cs.length=us.size→(∀ (i:Nat) c,cs[i]? = some c→VR E c (us.getD i undef))→VR E (.tup cs) (.tuple us)
 | lst (sz:Nat) (xs:List AV) (b off cap:Nat) (u:Nat→Value):E.S b→xs.length≤cap→cap≤maxLen →
  (∀ k,k < xs.length * sz→E.w.cell? ⟨b,off+k,none⟩=some (u k))→(∀ (i:Nat) x,xs[i]? = some x→x.cells.length=sz) →
  (∀ (i:Nat) x (j:Nat) c,xs[i]? = some x→x.cells[j]? = some c→VR E c (u (i * sz+j)))→VR E (.lst sz xs) (.slice (some ⟨b,off,none⟩) xs.length cap)
 | lstNil (sz:Nat):VR E (.lst sz []) (.slice none 0 0)
 | lstNo (sz cap:Nat) (ad:Addr):cap≤maxLen→VR E (.lst sz []) (.slice (some ad) 0 cap)
 | eptr (cs:List AV) (j b off:Nat) (u:Nat→Value):E.S b→(∀ k,k < cs.length→E.w.cell? ⟨b,off+k,none⟩=some (u k)) →
  (∀ (k:Nat) c,cs[k]? = some c→VR E c (u k))→VR E (.eptr cs j) (.pointer (some ⟨b,off+j,none⟩))
 | ref (id k:Nat) (x:Value):k≤E.ver id→(k=E.ver id→x=(E.own id).val)→VR E (.ref id k) x
 | rptr (id k i j:Nat) (x:Value):k≤E.ver id→(k=E.ver id→x=.pointer (some ⟨(E.own id).blk,i * (E.own id).sz+j,none⟩))→VR E (.rptr id k i j) x
 | fn (f:Fn) (first captured:List AV) (us vs:Array Value):first.length=us.size→captured.length=vs.size →
  (∀ (i:Nat) c,first[i]? = some c→VR E c (us.getD i undef))→(∀ (i:Nat) c,captured[i]? = some c→VR E c (vs.getD i undef))→VR E (.fn f first captured) (.func f us vs)
 | mapv (es:Array MapEntry) (clk b:Nat):E.S b→E.w.heap[b]? = some (.map es clk)→VR E (.mapv es clk) (.map (some b))
 | full (sz:Nat) (xs:List AV) (ad:Option Addr):VR E (.lst sz xs) (.slice ad xs.length xs.length)→VR E (.full sz xs) (.slice ad xs.length xs.length)
 | osl (id k lo hi:Nat) (full:Bool) (x:Value):k≤E.ver id→(k=E.ver id→x=subV (E.own id).val (E.own id).sz lo hi full)→VR E (.osl id k lo hi full) x
 | amapv (m:Int→Option AV) (es:Array MapEntry) (clk b:Nat):E.S b→E.w.heap[b]? = some (.map es clk)→intM es=true→(∀ n,(m n).isSome=(mget es n).isSome)→(∀ n a v,m n=some a→mget es n=some v→VR E a v)→VR E (.amapv m) (.map (some b))
 | iface (t:TypeId) (x:AV) (v:Value):VR E x v→VR E (.iface t x) (.iface t v)
structure Env.Le (E E':Env):Prop where
 S:∀ b,E.S b→E'.S b
 heap:∀ b,E.S b→E'.w.heap[b]? = E.w.heap[b]?
 ver:∀ id,E.ver id≤E'.ver id
 own:∀ id,E'.ver id=E.ver id→E'.own id=E.own id
theorem Env.Le.refl (E:Env):E.Le E:=⟨fun _ h=>h,fun _ _=>rfl,fun _=>Nat.le_refl _,fun _ _=>rfl⟩
theorem Env.Le.trans {A B C:Env} (h:A.Le B) (k:B.Le C):A.Le C :=
 ⟨fun b hb=>k.S b (h.S b hb),fun b hb=>(k.heap b (h.S b hb)).trans (h.heap b hb),fun id=>Nat.le_trans (h.ver id) (k.ver id),fun id he=>by
  have h1:=h.ver id;have h2:=k.ver id
  rw[k.own id (by omega),h.own id (by omega)]⟩
theorem VR.mono {E E':Env} (hle:E.Le E') {a:AV} {x:Value} (h:VR E a x):VR E' a x:=by
 induction h with
 | junk x=>exact .junk x
 | v x=>exact .v x
 | agg cs us hl _ ih=>exact .agg cs us hl ih
 | tup cs us hl _ ih=>exact .tup cs us hl ih
 | lst sz xs b off cap u hS h1 h2 h3 h4 _ ih =>
  exact .lst sz xs b off cap u (hle.S b hS) h1 h2 (fun k hk=>by rw[World.cell?_of_block (w:=E.w) (hle.heap b hS)];exact h3 k hk) h4 ih
 | lstNil sz=>exact .lstNil sz
 | lstNo sz cap ad h=>exact .lstNo sz cap ad h
 | eptr cs j b off u hS h1 _ ih=>exact .eptr cs j b off u (hle.S b hS) (fun k hk=>by rw[World.cell?_of_block (w:=E.w) (hle.heap b hS)];exact h1 k hk) ih
 | ref id k x h1 h2 =>
  have:=hle.ver id
  exact .ref id k x (by omega) fun hk=>by rw[hle.own id (by omega)];exact h2 (by omega)
 | rptr id k i j x h1 h2 =>
  have:=hle.ver id
  exact .rptr id k i j x (by omega) fun hk=>by rw[hle.own id (by omega)];exact h2 (by omega)
 | fn f first captured us vs h1 h2 _ _ ih1 ih2=>exact .fn f first captured us vs h1 h2 ih1 ih2
 | mapv es clk b hS h1=>exact .mapv es clk b (hle.S b hS) (by rw[hle.heap b hS];exact h1)
 | full sz xs ad _ ih=>exact .full sz xs ad ih
 | osl id k lo hi full x h1 h2 =>
  have:=hle.ver id
  exact .osl id k lo hi full x (by omega) fun hk=>by rw[hle.own id (by omega)];exact h2 (by omega)
 | amapv m es clk b hS h1 h2 h3 _ ih=>exact .amapv m es clk b (hle.S b hS) (by rw[hle.heap b hS];exact h1) h2 h3 ih
 | iface t x v _ ih=>exact .iface t x v ih
def Pure (a:AV):Prop:=∀ (ver ver':Nat→Nat) (own own':Nat→Own) (S:Nat→Prop) (w:World) (x:Value),VR ⟨ver,own,S,w⟩ a x→VR ⟨ver',own',S,w⟩ a x
def Flat (a:AV):Prop:=∀ (E E':Env) (x:Value),VR E a x→VR E' a x
theorem Flat.pure {a:AV} (h:Flat a):Pure a:=fun _ _ _ _ _ _ _ hx=>h _ _ _ hx
theorem zlr (x:Value):Flat (.v x):=fun _ _ _ h=>by cases h;exact .v _
theorem zzh (x:Value):Pure (.v x):=(zlr x).pure
theorem zx3 {cs:List AV} (h:∀ c∈cs,Pure c):Pure (.agg cs):=fun ver ver' own own' S w x hx=>by
 cases hx with
 | agg _ us hl hc=>exact .agg _ us hl fun i c hi=>h c (List.mem_of_getElem? hi) ver ver' own own' S w _ (hc i c hi)
theorem zyw {sz:Nat} {xs:List AV} (h:∀ x∈xs,∀ c∈x.cells,Pure c):Pure (.lst sz xs):=fun ver ver' own own' S w x hx=>by
 cases hx with
 | lst _ _ b off cap u h0 h1 h2 h3 h4 h5 =>
  exact .lst _ _ b off cap u h0 h1 h2 h3 h4 fun i x j c hi hj=>h x (List.mem_of_getElem? hi) c (List.mem_of_getElem? hj) ver ver' own own' S w _ (h5 i x j c hi hj)
 | lstNil=>exact .lstNil _
 | lstNo _ _ _ hc=>exact .lstNo _ _ _ hc
theorem zyf {cs:List AV} {j:Nat} (h:∀ c∈cs,Pure c):Pure (.eptr cs j):=fun ver ver' own own' S w x hx=>by
 cases hx with
 | eptr _ _ b off u h0 h1 h2=>exact .eptr _ _ b off u h0 h1 fun i c hi=>h c (List.mem_of_getElem? hi) ver ver' own own' S w _ (h2 i c hi)
theorem zym {f:Fn} {first captured:List AV} (h:∀ c∈first,Pure c) (h':∀ c∈captured,Pure c):Pure (.fn f first captured):=fun ver ver' own own' S w x hx=>by
 cases hx with
 | fn _ _ _ us vs h1 h2 h3 h4 =>
  exact .fn _ _ _ us vs h1 h2 (fun i c hi=>h c (List.mem_of_getElem? hi) ver ver' own own' S w _ (h3 i c hi)) (fun i c hi=>h' c (List.mem_of_getElem? hi) ver ver' own own' S w _ (h4 i c hi))
theorem zy2 (es:Array MapEntry) (clk:Nat):Pure (.mapv es clk):=fun ver ver' own own' S w x hx=>by
 cases hx with
 | mapv _ _ b h1 h2=>exact .mapv _ _ b h1 h2
theorem zx4 {m:Int→Option AV} (h:∀ n a,m n=some a→Pure a):Pure (.amapv m):=fun ver ver' own own' S w x hx=>by
 cases hx with
 | amapv _ es clk b h1 h2 h3 h4 h5=>exact .amapv _ es clk b h1 h2 h3 h4 fun n a v ha hv=>h n a ha ver ver' own own' S w _ (h5 n a v ha hv)
theorem zyq {t:TypeId} {a:AV} (h:Pure a):Pure (.iface t a):=fun ver ver' own own' S w x hx=>by
 cases hx with
 | iface _ _ v h1=>exact .iface _ _ v (h ver ver' own own' S w _ h1)
def keyI (e:MapEntry):Int :=
 match e.key with
 | .int _ n=>n
 | _=>0
def mapOK (es:Array MapEntry) (clk:Nat):Prop:=(∀ x∈es.toList,x.born < clk)∧(es.toList.map (·.born)).Nodup
structure AMap where
 f:Int→Option AV
 b:Int→Nat
 c:Nat
instance : Inhabited AMap:=⟨fun _=>none,fun _=>0,0⟩
inductive Blk where
 | none
 | arr (e sz:Nat) (xs:List AV)
 | box (cs:List AV)
 | map (es:Array MapEntry) (clk:Nat)
 | obj (x:Obj)
 | iter (es:Array MapEntry) (clk:Nat) (done:List MapEntry)
 | amap (m:AMap)
 deriving Inhabited
def AM (E:Env) (m:Int→Option AV) (es:Array MapEntry):Prop:=intM es=true∧(∀ n,(m n).isSome=(mget es n).isSome)∧∀ n a v,m n=some a→mget es n=some v→VR E a v
theorem AM.mono {E E':Env} (hle:E.Le E') {m:Int→Option AV} {es:Array MapEntry} (h:AM E m es):AM E' m es:=⟨h.1,h.2.1,fun n a v h1 h2=>(h.2.2 n a v h1 h2).mono hle⟩
def VRs (E:Env) (as:List AV) (us:List Value):Prop:=as.length=us.length∧∀ (i:Nat) a u,as[i]? = some a→us[i]? = some u→VR E a u
theorem VRs.mono {E E':Env} (hle:E.Le E') {as:List AV} {us:List Value} (h:VRs E as us):VRs E' as us:=⟨h.1,fun i a u ha hu=>(h.2 i a u ha hu).mono hle⟩
def BM (m:AMap) (es:Array MapEntry) (clk:Nat):Prop :=
 clk=m.c∧(∀ (i:Nat) e n,es[i]? = some e→e.key=.int .i64 n→e.born=m.b n∧e.born < clk)∧∀ (i j:Nat) e e',es[i]? = some e→es[j]? = some e'→e.born=e'.born→i=j
def BR (E:Env) (base:Nat) (o:Own):Blk→Prop
 | .none=>True
 | .arr e sz xs=>o.sz=sz∧∃ us,E.w.ownsRowW base e sz o.val xs.length us∧(∀ x∈xs,x.cells.length=sz)∧VRs E (xs.flatMap AV.cells) us∧(∀ b,o.val.ownBlock=some b→o.blk=b∧¬ E.S b)
 | .box cs=>∃ (us:Array Value) (t:TypeId),E.w.heap[o.blk]? = some (.cells us t (0,0))∧base≤o.blk∧¬ E.S o.blk∧VRs E cs us.toList
 | .map es clk=>E.w.heap[o.blk]? = some (.map es clk)∧o.val=.map (some o.blk)∧base≤o.blk∧¬ E.S o.blk
 | .obj x=>E.w.heap[o.blk]? = some x∧base≤o.blk∧¬ E.S o.blk
 | .iter es clk done=>∃ b,E.S b∧E.w.heap[b]? = some (.map es clk)∧E.w.heap[o.blk]? = some (.mapIter (some b) clk (done.map (·.born)).toArray clk)∧base≤o.blk∧¬ E.S o.blk∧mapOK es clk∧(∀ x∈done,x∈es.toList)∧o.sz=0
 | .amap m=>∃ es clk,E.w.heap[o.blk]? = some (.map es clk)∧o.val=.map (some o.blk)∧base≤o.blk∧¬ E.S o.blk∧AM E m.f es∧BM m es clk
def Blk.at (o:Own):Blk→Option Nat
 | .none=>.none
 | .arr ..=>o.val.ownBlock
 | .box _=>some o.blk
 | .map ..=>some o.blk
 | .obj _=>some o.blk
 | .iter ..=>some o.blk
 | .amap ..=>some o.blk
structure St where
 σ:Nat→AV
 ver:Nat→Nat
 h:Nat→Blk
def upd {α:Type} (f:Nat→α) (i:Nat) (x:α):Nat→α:=fun j=>if j=i then x else f j
structure Ctx where
 P:Program
 w0:World
 S0:Nat→Prop
 n:Nat
 rnd:Option Nat:=none
 ids:Nat→Nat:=fun d=>d
 e0:Option Env:=none
def Ctx.F (G:Ctx):Fence:={ Fence.wide with round:=G.rnd }
structure Rel (G:Ctx) (st:St) (E:Env) (a:Act):Prop where
 size:a.tmps.size=G.n
 defers:∀ d∈a.defers,∃ r,d=⟨.collected r,#[]⟩∧E.S r∧G.w0.heap.size≤r∧E.w.heap[r]? = some (.deferred (some []))∧∀ E0,G.e0=some E0→¬ E0.S r
 once:a.defers.Pairwise (·≠·)
 le0:∀ E0,G.e0=some E0→E0.Le E
 ver:E.ver=st.ver
 below:Below G.w0.heap.size G.w0 E.w
 Slt:∀ b,E.S b→b < E.w.heap.size
 S0:∀ b,G.S0 b→E.S b
 Snew:∀ b,E.S b→G.S0 b∨G.w0.heap.size≤b
 slots:∀ j,VR E (st.σ j) (a.tmps.getD j undef)
 blocks:∀ id,BR E G.w0.heap.size (E.own id) (st.h id)
 apart:∀ id id' b,id≠id'→(st.h id).at (E.own id)=some b→(st.h id').at (E.own id')≠some b
theorem yrh {F:Fence} {n:Nat} {P:Program} {Q:Exit→Act→World→Prop} {a:Act} {w:World} {c:Code} (I:Nat→Act→World→Prop) (n₀:Nat) (h₀:I n₀ a w)
 (round:∀ m a w,I m a w→c.wpIn F n P (Exit.then (fun a' w'=>∃ n',n' < m∧I n' a' w') Q) a w):(Code.loop c).wpIn F n P Q a w:=by
 refine wpIn_loop (fun a w=>∃ m,I m a w) (fun a w=>leastOf (fun m=>I m a w)) ⟨n₀,h₀⟩ ?_
 intro a w hI
 refine wpIn_mono (round _ a w (leastOf_spec hI).1) ?_
 intro e a' w' hq
 cases e with
 | normal =>
  obtain⟨n',hlt,hI'⟩:=hq
  exact show (∃ m,I m a' w')∧leastOf (fun m=>I m a' w') < leastOf (fun m=>I m a w) from ⟨⟨n',hI'⟩,Nat.lt_of_le_of_lt ((leastOf_spec ⟨n',hI'⟩).2 n' hI') hlt⟩
 | exit id=>exact hq
 | goto l=>exact hq
 | ret=>exact hq
 | panic ch=>exact hq
 | outgrown=>exact hq
def AWp (G:Ctx) (c:Code) (Q:Exit→St→Prop) (st:St):Prop :=
 ∀ E a,Rel G st E a→c.wpIn G.F 0 G.P (fun e a' w'=>∃ st' E',E'.w=w'∧Rel G st' E' a'∧Q e st') a E.w
def thenA (K:St→Prop) (Q:Exit→St→Prop):Exit→St→Prop
 | .normal,st=>K st
 | e,st=>Q e st
def zn9 (id:Nat) (Q:Exit→St→Prop):Exit→St→Prop
 | .exit id',st=>if id'=id then Q .normal st else Q (.exit id') st
 | e,st=>Q e st
section
variable {G:Ctx} {Q:Exit→St→Prop} {st:St}
theorem AWp.mono {c:Code} {Q':Exit→St→Prop} (h:AWp G c Q st) (hq:∀ e s,Q e s→Q' e s):AWp G c Q' st :=
 fun E a hr=>wpIn_mono (h E a hr) fun _ _ _ ⟨st',E',h1,h2,h3⟩=>⟨st',E',h1,h2,hq _ _ h3⟩
theorem AWp.skip (h:Q .normal st):AWp G .skip Q st:=fun E _ hr=>wpIn_skip ⟨st,E,rfl,hr,h⟩
theorem AWp.label {l:Nat} (h:Q .normal st):AWp G (.label l) Q st:=fun E _ hr=>wpIn_label ⟨st,E,rfl,hr,h⟩
theorem AWp.ret (h:Q .ret st):AWp G .ret Q st:=fun E _ hr=>wpIn_ret ⟨st,E,rfl,hr,h⟩
theorem AWp.exit {id:Nat} (h:Q (.exit id) st):AWp G (.exit id) Q st:=fun E _ hr=>wpIn_exit ⟨st,E,rfl,hr,h⟩
theorem AWp.seq {x y:Code} (h:AWp G x (thenA (AWp G y Q) Q) st):AWp G (.seq x y) Q st:=fun E a hr =>
 wpIn_seq (wpIn_mono (h E a hr) fun e a' w' ⟨st',E',h1,h2,h3⟩=>by
  subst h1
  cases e with
  | normal=>exact h3 E' a' h2
  | _=>exact⟨st',E',rfl,h2,h3⟩)
theorem AWp.block {id:Nat} {c:Code} (h:AWp G c (zn9 id Q) st):AWp G (.block id c) Q st:=fun E a hr =>
 wpIn_block (wpIn_mono (h E a hr) fun e a' w' ⟨st',E',h1,h2,h3⟩=>by
  cases e with
  | exit id' =>
   simp only[Exit.inBlock,zn9]at *
   split
   · rename_i he;rw[if_pos he]at h3;exact⟨st',E',h1,h2,h3⟩
   · rename_i he;rw[if_neg he]at h3;exact⟨st',E',h1,h2,h3⟩
  | _=>exact⟨st',E',h1,h2,h3⟩)
def St.ev (st:St):Operand→AV
 | .tmp t=>st.σ t
 | .const x=>.v x
 | .global g=>.v (.pointer (some ⟨g,0,none⟩))
 | .func f=>.fn (.func f) [] []
theorem Rel.ev {E:Env} {a:Act} (hr:Rel G st E a) (x:Operand):VR E (st.ev x) (a.eval x):=by
 cases x with
 | tmp t=>exact hr.slots t
 | const x=>exact .v x
 | global g=>exact .v _
 | func f=>exact .fn _ [] [] #[] #[] rfl rfl (by simp) (by simp)
theorem AWp.cond {c:Operand} {x y:Code} {t:Bool} (hc:st.ev c=.v (.bool t)) (h:if t=true then AWp G x Q st else AWp G y Q st):AWp G (.cond c x y) Q st:=fun E a hr=>by
 have hv:=hr.ev c
 rw[hc]at hv
 refine wpIn_cond (t:=t) (by generalize a.eval c=z at hv;cases hv;rfl) ?_
 cases t
 · exact h E a hr
 · exact h E a hr
theorem AWp.loop {c:Code} (I:Nat→St→Prop) (n₀:Nat) (h₀:I n₀ st)
 (round:∀ n s,I n s→AWp G c (thenA (fun s'=>∃ n',n' < n∧I n' s') Q) s):AWp G (.loop c) Q st:=fun E a hr=>by
 refine yrh (fun n a w=>∃ s E',E'.w=w∧Rel G s E' a∧I n s) n₀ ⟨st,E,rfl,hr,h₀⟩ ?_
 rintro n a w ⟨s,E',rfl,hr',hI⟩
 refine wpIn_mono (round n s hI E' a hr') ?_
 rintro e a' w' ⟨s',E'',rfl,h2,h3⟩
 cases e with
 | normal=>obtain⟨n',hn,hI'⟩:=h3;exact⟨n',hn,s',E'',rfl,h2,hI'⟩
 | _=>exact⟨s',E'',rfl,h2,h3⟩
end
end Go.Abs
namespace Go.Abs
open Go Go.RowKit
def tSize (P:Program) (t:TypeId):Option Nat:=(P.info? t).map (·.size)
def ylk (P:Program) (t:TypeId):Option Nat:=(P.info? t).map (·.bytes)
def tZero (P:Program) (t:TypeId):Option Value:=(P.info? t).bind (·.zero)
def tAgg (P:Program) (t:TypeId):Option Bool :=
 match P.underlying t with
 | some (.struct _)|some (.array _ _)=>some true
 | some _=>some false
 | none=>none
def tElem (P:Program) (t:TypeId):Option TypeId :=
 match P.underlying t with
 | some (.slice e)=>some e
 | _=>none
def yls (P:Program) (t:TypeId) (f:Nat):Option (Nat×TypeId) :=
 match P.underlying t with
 | some (.struct fs)=>match fs[f]? with
  | some x=>match tSize P x.type with
   | some (_+1)=>some (x.offset,x.type)
   | _=>none
  | none=>none
 | _=>none
def tInt (P:Program) (t:TypeId):Option IntKind :=
 match P.underlying t with
 | some (.int k)=>some k
 | _=>none
def tStr (P:Program) (t:TypeId):Bool :=
 match P.underlying t with
 | some .string=>true
 | _=>false
def tArr (P:Program) (t:TypeId):Option (Nat×Nat) :=
 match P.underlying t with
 | some (.array n e)=>(tSize P e).map fun m=>(n,m)
 | _=>none
theorem ylj {P:Program} {t:TypeId} {n m:Nat} (h:tArr P t=some (n,m)):∃ e,P.underlying t=some (.array n e)∧tSize P e=some m:=by
 unfold tArr at h
 split at h
 · rename_i n' e hu
   obtain⟨m',h1,h2⟩:=Option.map_eq_some_iff.1 h
   simp only[Prod.mk.injEq]at h2
   obtain⟨rfl,rfl⟩:=h2
   exact⟨e,hu,h1⟩
 · cases h
def tArrE (P:Program) (t:TypeId):Option (Nat×TypeId) :=
 match P.underlying t with
 | some (.array n e)=>some (n,e)
 | _=>none
theorem tArrE_eq {P:Program} {t:TypeId} {n:Nat} {e:TypeId} (h:tArrE P t=some (n,e)):P.underlying t=some (.array n e):=by
 unfold tArrE at h
 split at h
 · rename_i n' e' hu
   simp only[Option.some.injEq,Prod.mk.injEq]at h
   obtain⟨rfl,rfl⟩:=h
   exact hu
 · cases h
theorem yoj {P:Program} {t:TypeId} (h:tStr P t=true):P.underlying t=some .string:=by
 unfold tStr at h;split at h<;>first|assumption|cases h
theorem ylr {P:Program} {t e:TypeId} (h:tElem P t=some e):P.underlying t=some (.slice e):=by
 unfold tElem at h;split at h<;>first|(cases h;assumption)|cases h
theorem ynp {P:Program} {t:TypeId} {k:IntKind} (h:tInt P t=some k):P.underlying t=some (.int k):=by
 unfold tInt at h;split at h<;>first|(cases h;assumption)|cases h
theorem zbr (b o j:Nat):(⟨b,o,none⟩:Addr).add j=⟨b,o+j,none⟩:=by
 unfold Addr.add;split<;>simp_all
theorem zlm {sz:Nat}:∀ (xs:List AV) (i:Nat) (x:AV) (j:Nat),(∀ x∈xs,x.cells.length=sz)→xs[i]? = some x→j < sz→(xs.flatMap AV.cells)[i * sz+j]? = x.cells[j]?
 | [],i,x,j,_,h,_=>by simp at h
 | y::ys,0,x,j,hl,h,hj=>by
  have hy:y=x:=by simpa using h
  subst hy
  have:=hl y (by simp)
  rw[List.flatMap_cons,Nat.zero_mul,Nat.zero_add,List.getElem?_append_left (by omega)]
 | y::ys,i+1,x,j,hl,h,hj=>by
  have h1:=hl y (by simp)
  rw[List.flatMap_cons,List.getElem?_append_right (by rw[h1,Nat.succ_mul];omega),h1,show (i+1) * sz+j - sz=i * sz+j from by rw[Nat.succ_mul];omega]
  exact zlm ys i x j (fun x hx=>hl x (by simp[hx])) (by simpa using h) hj
theorem zlo {sz:Nat}:∀ (xs:List AV),(∀ x∈xs,x.cells.length=sz)→(xs.flatMap AV.cells).length=xs.length * sz
 | [],_=>by simp
 | x::xs,h=>by
  rw[List.flatMap_cons,List.length_append,zlo xs fun y hy=>h y (by simp[hy]),h x (by simp),List.length_cons,Nat.succ_mul];omega
def zp9 (st:St) (m:Nat):AV→Option (List AV)
 | .eptr cs j=>if j+m≤cs.length then some ((cs.drop j).take m) else none
 | .rptr id k i j=>if k=st.ver id then
  match st.h id with
  | .box cs=>if i=0∧j+m≤cs.length then some ((cs.drop j).take m) else none
  | .arr _ _ xs=>match xs[i]? with
   | some x=>if j+m≤x.cells.length then some ((x.cells.drop j).take m) else none
   | none=>none
  | _=>none
  else none
 | _=>none
def mkAV:Bool→List AV→Option AV
 | true,cs=>some (.agg cs)
 | false,cs=>match cs with
  | [c]=>some c
  | _=>none
def ldAV (P:Program) (st:St) (t:TypeId) (x:AV):Option AV :=
 match tAgg P t,tSize P t with
 | some b,some m=>(zp9 st m x).bind (mkAV b)
 | _,_=>none
section
variable {G:Ctx} {st:St} {E:Env} {a:Act}
theorem zqa (hr:Rel G st E a) {x:AV} {y:Value} {m:Nat} {cs:List AV} (hx:VR E x y) (h:zp9 st m x=some cs) :
 ∃ (p:Addr) (us:List Value),y=.pointer (some p)∧us.length=m∧(∀ j u,us[j]? = some u→E.w.cell? (p.add j)=some u)∧VRs E cs us:=by
 cases hx with
 | eptr ds j b off u hS h1 h2 =>
  simp only[zp9]at h
  split at h
  · rename_i hm
    cases h
    refine⟨_,(List.range m).map fun i=>u (j+i),rfl,by simp,?_,by simp;omega,?_⟩
    · intro i v hv
      simp only[List.getElem?_map,List.getElem?_range',Option.map_eq_some_iff]at hv
      obtain⟨k,hk,rfl⟩:=hv
      have hk':k=i∧i < m:=by
       by_cases hi:i < m
       · rw[List.getElem?_eq_getElem (by simpa using hi)]at hk;simp at hk;omega
       · rw[List.getElem?_eq_none (by simpa using hi)]at hk;cases hk
      rw[zbr,hk'.1,Nat.add_assoc]
      exact h1 _ (by omega)
    · intro i c v hc hv
      simp only[List.getElem?_take,List.getElem?_drop]at hc
      split at hc
      · rename_i him
        simp[him]at hv
        subst hv
        exact h2 _ c hc
      · cases hc
  · cases h
 | rptr id k i j _ h1 h2 =>
  simp only[zp9]at h
  split at h
  · rename_i hk
    have hy:=h2 (by rw[hr.ver];exact hk)
    subst hy
    have hb:=hr.blocks id
    split at h
    · rename_i ds hh
      rw[hh]at hb
      obtain⟨us,t,hheap,_,_,hvs⟩:=hb
      split at h
      · rename_i hm
        cases h
        obtain⟨rfl,hm⟩:=hm
        refine⟨_,(us.toList.drop j).take m,rfl,?_,?_,?_,?_⟩
        · have:=hvs.1;simp at this ⊢;omega
        · intro n v hv
          rw[Nat.zero_mul,Nat.zero_add,zbr,cell_of_row _ _ _ _ _ _ hheap]
          simp only[List.getElem?_take,List.getElem?_drop]at hv
          split at hv
          · simpa using hv
          · cases hv
        · have:=hvs.1;simp at this ⊢;omega
        · intro n c v hc hv
          simp only[List.getElem?_take,List.getElem?_drop]at hc hv
          split at hc
          · rename_i hn;simp only[hn,if_true]at hv;exact hvs.2 _ c v hc hv
          · cases hc
      · cases h
    · rename_i e sz xs hh
      rw[hh]at hb
      obtain⟨hsz,us,hown,hlen,hvs,hblk⟩:=hb
      split at h
      · rename_i x hx
        split at h
        · rename_i hm
          cases h
          have hxl:=hlen x (List.mem_of_getElem? hx)
          have hul:=hvs.1
          rw[zlo xs hlen]at hul
          have hi:i < xs.length:=(List.getElem?_eq_some_iff.1 hx).1
          have hmul:i * sz+sz≤xs.length * sz:=by rw[← Nat.succ_mul];exact Nat.mul_le_mul_right _ hi
          rcases Nat.eq_zero_or_pos m with hm0|hm0
          · subst hm0
            exact⟨_,[],rfl,rfl,by simp,by simp[VRs]⟩
          have hpos:0 < us.length:=by omega
          obtain⟨g,hg⟩:∃ g,(E.own id).val.ownBlock=some g:=by
           rcases hown.2 with ⟨hv,hn⟩|⟨g,cap,cur,hv,_⟩
           · omega
           · exact⟨g,by rw[hv];rfl⟩
          obtain⟨hg1,_⟩:=hblk g hg
          have hcells:=hown.cells hg
          refine⟨_,(us.drop (i * sz+j)).take m,rfl,?_,?_,?_,?_⟩
          · simp;omega
          · intro n v hv
            rw[zbr,hsz,hg1]
            simp only[List.getElem?_take,List.getElem?_drop]at hv
            split at hv
            · have:=hcells _ v hv
              rw[zbr,Nat.zero_add]at this
              exact this
            · cases hv
          · simp;omega
          · intro n c v hc hv
            simp only[List.getElem?_take,List.getElem?_drop]at hc hv
            split at hc
            · rename_i hn
              simp only[hn,if_true]at hv
              refine hvs.2 (i * sz+j+n) c v ?_ hv
              rw[Nat.add_assoc,zlm xs i x (j+n) hlen hx (by omega)]
              exact hc
            · cases hc
        · cases h
      · cases h
    · cases h
  · cases h
 | junk _=>simp[zp9]at h
 | v _=>simp[zp9]at h
 | agg _ _=>simp[zp9]at h
 | tup _ _=>simp[zp9]at h
 | lst _ _ _ _ _ _=>simp[zp9]at h
 | lstNil _=>simp[zp9]at h
 | lstNo _ _ _ _=>simp[zp9]at h
 | ref _ _ _ _=>simp[zp9]at h
 | fn _ _ _ _ _=>simp[zp9]at h
 | mapv _ _ _ _ _=>simp[zp9]at h
 | full _ _ _ _=>simp[zp9]at h
 | osl _ _ _ _ _ _ _ _=>simp[zp9]at h
 | amapv _ _ _ _ _ _ _ _ _=>simp[zp9]at h
 | iface _ _ _ _=>simp[zp9]at h
theorem yhd {P:Program} {t:TypeId} {b:Bool} (h:tAgg P t=some b) (w:World):(isAgg t).run P w=.ok b w:=by
 unfold tAgg at h
 unfold isAgg
 split at h
 · rename_i fs hu
   cases h
   simp[run_underlying hu]
 · rename_i n e hu
   cases h
   simp[run_underlying hu]
 · rename_i d hs ha hu
   cases h
   rw[Sem.run_bind,run_underlying hu w]
   cases d with
   | struct fs=>exact (hs fs rfl).elim
   | array n e=>exact (ha n e rfl).elim
   | _=>rfl
 · cases h
theorem yhn {P:Program} {t:TypeId} {m:Nat} (h:tSize P t=some m) (w:World):(sizeOf t).run P w=.ok m w:=by
 unfold tSize at h
 cases hi:P.info? t with
 | none=>simp[hi]at h
 | some i=>simp[hi]at h;simp[sizeOf,typeInfo,hi,h]
theorem zp8 (hr:Rel G st E a) {t:TypeId} {x r:AV} {y:Value} (hx:VR E x y) (h:ldAV G.P st t x=some r) :
 ∃ z,(Instr.loadAt t y).run G.P E.w=.ok z E.w∧VR E r z:=by
 unfold ldAV at h
 split at h
 · rename_i b m hb hm
   obtain⟨cs,hcs,hmk⟩:=Option.bind_eq_some_iff.1 h
   obtain⟨p,us,rfl,hul,hcell,hvs⟩:=zqa hr hx hcs
   cases b with
   | true =>
    simp only[mkAV,Option.some.injEq]at hmk
    subst hmk
    refine⟨.agg us.toArray,?_,.agg _ _ (by simpa using hvs.1) fun i c hc=>?_⟩
    · have:=run_loadCells_list (P:=G.P) E.w p us hcell
      rw[hul]at this
      simp[Instr.loadAt,Instr.sureAddr,loadVar,yhd hb,yhn hm,this]
    · have hi:i < us.length:=by rw[← hvs.1];exact (List.getElem?_eq_some_iff.1 hc).1
      have:=hvs.2 i c us[i] hc (List.getElem?_eq_getElem hi)
      simpa [Array.getD,hi] using this
   | false =>
    simp only[mkAV]at hmk
    split at hmk
    · rename_i c
      cases hmk
      have h1:us.length=1:=by have:=hvs.1;simpa using this.symm
      obtain⟨u,rfl⟩:=List.length_eq_one_iff.1 h1
      refine⟨u,?_,hvs.2 0 _ u rfl rfl⟩
      have:=hcell 0 u rfl
      have hp:p.add 0=p:=by simp[Addr.add]
      rw[hp]at this
      simp[Instr.loadAt,Instr.sureAddr,loadVar,yhd hb,this]
    · cases hmk
 · cases h
end
end Go.Abs
