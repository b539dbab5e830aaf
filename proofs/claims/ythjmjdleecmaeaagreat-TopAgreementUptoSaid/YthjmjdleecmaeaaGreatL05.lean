/- Several texts of the proof in one: Fg. No condition. -/
import Derived.Test.YthjmjdleecmaeaaGreatL04
set_option linter.unusedSimpArgs false
set_option linter.unusedVariables false
set_option maxHeartbeats 4000000
set_option maxRecDepth 8000
namespace Go.Abs
open Go Go.RowKit
def env0 (S:Nat→Prop) (w:World):Env:=⟨fun _=>0,fun _=>⟨undef,0,0⟩,S,w⟩
theorem Pure.to0 {E:Env} {p:AV} {x:Value} (hp:Pure p) (h:VR E p x):VR (env0 E.S E.w) p x:=hp _ _ _ _ _ _ _ h
theorem Pure.of0 {E:Env} {p:AV} {x:Value} (hp:Pure p) (h:VR (env0 E.S E.w) p x):VR E p x:=hp _ _ _ _ _ _ _ h
def RR1 (E:Env) (base:Nat):AV→Value→Prop
 | .fresh e sz xs,x=>∃ us,E.w.ownsRowW base e sz x xs.length us∧(∀ c∈xs,c.cells.length=sz)∧VRs E (xs.flatMap AV.cells) us∧(∀ b,x.ownBlock=some b→¬ E.S b)
 | r,x=>VR E r x
def AV.isFresh:AV→Bool
 | .fresh ..=>true
 | _=>false
def RR (E:Env) (base:Nat):AV→Value→Prop
 | .tup rs,x=>∃ us:Array Value,x=.tuple us∧rs.length=us.size∧(∀ (i:Nat) r,rs[i]? = some r→RR1 E base r (us.getD i undef)) ∧
  (∀ (i j:Nat) r r' b,i≠j→rs[i]? = some r→rs[j]? = some r'→r.isFresh=true→r'.isFresh=true→(us.getD i undef).ownBlock=some b→(us.getD j undef).ownBlock≠some b)
 | r,x=>RR1 E base r x
def zat:AV→Prop
 | .fresh _ _ xs=>∀ x∈xs,∀ c∈x.cells,Pure c
 | r=>Pure r
def PureR:AV→Prop
 | .tup rs=>∀ r∈rs,zat r
 | r=>zat r
def zah:AV→Prop
 | .fresh _ _ xs=>∀ x∈xs,∀ c∈x.cells,Flat c
 | r=>Flat r
def FlatR:AV→Prop
 | .tup rs=>∀ r∈rs,zah r
 | r=>zah r
structure AC (P:Program) (f:FuncId) (args:List AV) (r:AV):Prop where
 fn:∃ fn,P.funcs[f]? = some fn∧fn.body.isSome=true∧(fn.name == "runtime.NumGoroutine")=false
 pargs:∀ p∈args,Pure p
 pres:PureR r
 run:∀ (S:Nat→Prop) (w:World) (vs:Array Value),(∀ b,S b→b < w.heap.size)→vs.size=args.length→(∀ (i:Nat) p,args[i]? = some p→VR (env0 S w) p (vs.getD i undef)) →
  Calls P f vs w fun e w'=>∃ v S',e=.returned v∧Below w.heap.size w w'∧(∀ b,S b→S' b)∧(∀ b,S' b→S b∨w.heap.size≤b)∧(∀ b,S' b→b < w'.heap.size)∧RR (env0 S' w') w.heap.size r v
def resAV (P:Program) (st:St):ResultVar→Option AV
 | .tmp t=>some (st.σ t)
 | .cell t ty=>ldAV P st ty (st.σ t)
def outAV (st:St):AV→Option AV
 | .ref id k=>if k=st.ver id then
  match st.h id with
  | .arr e sz xs=>some (.fresh e sz xs)
  | _=>none
  else none
 | .rptr ..=>none
 | .fresh ..=>none
 | p=>some p
def refId:AV→Option Nat
 | .ref id _=>some id
 | _=>none
def yf7 (P:Program) (st:St) (rvs:List ResultVar):Option AV :=
 match rvs with
 | [v]=>(resAV P st v).bind fun r=>match r with|.tup _=>none|r=>outAV st r
 | vs=>(vs.mapM (resAV P st)).bind fun rs=>if (rs.filterMap refId).Nodup then (rs.mapM (outAV st)).map .tup else none
def yf3 (tmps:Array Value):ResultVar→Sem Value
 | .tmp t=>pure (tmps.getD t undef)
 | .cell a t=>do loadVar t (← asAddr (tmps.getD a undef))
theorem yf8 (fn:Func) (tmps:Array Value):results fn tmps=(do let vs ← fn.results.mapM (yf3 tmps);pure (if h:vs.size=1 then vs[0] else .tuple vs)):=by
 rfl
section
variable {G:Ctx} {st:St} {E:Env} {a:Act}
theorem yhk (hr:Rel G st E a) {v:ResultVar} {r:AV} (h:resAV G.P st v=some r) :
 ∃ x,(yf3 a.tmps v).run G.P E.w=.ok x E.w∧VR E r x:=by
 cases v with
 | tmp t=>cases h;exact⟨_,rfl,hr.slots t⟩
 | cell p t =>
  obtain⟨z,h1,h2⟩:=zp8 hr (hr.slots p) h
  refine⟨z,?_,h2⟩
  cases hp:a.tmps.getD p undef with
  | pointer ad =>
   rw[hp]at h1
   cases ad with
   | none=>simp[Instr.loadAt,Instr.sureAddr,stuck,Sem.run]at h1
   | some ad =>
    simp only[Instr.loadAt,Instr.sureAddr,Sem.run_bind,Sem.run_pure,Result.andThen_ok]at h1
    simp only[yf3,hp,asAddr,Sem.run_bind,Sem.run_pure,Result.andThen_ok]
    exact h1
  | _=>rw[hp]at h1;simp[Instr.loadAt,Instr.sureAddr,stuck,Sem.run]at h1
theorem zvk (hr:Rel G st E a) {p r:AV} {x:Value} (hx:VR E p x) (h:outAV st p=some r):RR1 E G.w0.heap.size r x∧(r.isFresh=true→∃ id k,p=.ref id k∧x=(E.own id).val∧(st.h id).at (E.own id)=x.ownBlock):=by
 unfold outAV at h
 split at h
 · rename_i id k
   split at h
   case isFalse=>cases h
   rename_i hk
   split at h
   · rename_i e sz xs hh
     cases h
     cases hx with
     | ref _ _ _ h1 h2 =>
      have hx:=h2 (by rw[hr.ver];exact hk)
      subst hx
      have hb:=hr.blocks id
      rw[hh]at hb
      obtain⟨hsz,us,hown,hlen,hvs,hblk⟩:=hb
      exact⟨⟨us,hown,hlen,hvs,fun b hb=>(hblk b hb).2⟩,fun _=>⟨id,k,rfl,rfl,by rw[hh];rfl⟩⟩
   · cases h
 · cases h
 · cases h
 · rename_i h1 h2 h3
   have he:p=r:=by simpa using h
   subst he
   cases p with
   | ref id k=>exact (h1 id k rfl).elim
   | rptr _ _ _ _=>exact (h2 _ _ _ _ rfl).elim
   | fresh _ _ _=>exact (h3 _ _ _ rfl).elim
   | _=>exact⟨hx,fun h=>by cases h⟩
end
theorem RR1.to0 {E:Env} {base:Nat} {r:AV} {x:Value} (hp:zat r) (h:RR1 E base r x):RR1 (env0 E.S E.w) base r x:=by
 cases r with
 | fresh e sz xs =>
  obtain⟨us,h1,h2,h3,h4⟩:=h
  refine⟨us,h1,h2,⟨h3.1,fun i c u hc hu=>Pure.to0 ?_ (h3.2 i c u hc hu)⟩,h4⟩
  obtain⟨y,hy,hm⟩:=List.mem_flatMap.1 (List.mem_of_getElem? hc)
  exact hp y hy c hm
 | _=>exact Pure.to0 hp h
theorem RR1.isFresh_false {E:Env} {base:Nat} {r:AV} {x:Value} (h:RR1 E base r x) (hf:r.isFresh=false):VR E r x:=by
 cases r with
 | fresh _ _ _=>cases hf
 | _=>exact h
def argAt:List AV→Nat→AV
 | [],_=>.junk
 | p::_,0=>p
 | _::l,n+1=>argAt l n
theorem zd4:∀ (l:List AV) (j:Nat),argAt l j=l.getD j .junk
 | [],_=>rfl
 | _::_,0=>rfl
 | _::l,n+1=>by simpa [argAt] using zd4 l n
def ykc (args:List AV):St:=⟨argAt args,fun _=>0,fun _=>.none⟩
def PostR (P:Program) (rvs:List ResultVar) (r:AV):Exit→St→Prop
 | .normal,st|.ret,st=>∃ ids r0,yf7 P (st.freezes ids) rvs=some r0∧WkR r0 r
 | _,_=>False
theorem yhm {G:Ctx} {st:St} {E:Env} {a:Act} (hr:Rel G st E a) (fn:Func) (r:AV) (h:yf7 G.P st fn.results.toList=some r):∃ x,(results fn a.tmps).run G.P E.w=.ok x E.w∧RR E G.w0.heap.size r x:=by
 have hmap:∀ (vs:List ResultVar) (rs:List AV),vs.mapM (resAV G.P st)=some rs →
  ∃ xs:List Value,(vs.mapM (yf3 a.tmps)).run G.P E.w=.ok xs E.w∧rs.length=xs.length ∧
   ∀ (i:Nat) r x,rs[i]? = some r→xs[i]? = some x→VR E r x:=by
  intro vs
  induction vs with
  | nil=>intro rs h;simp at h;subst h;exact⟨[],by simp,rfl,by simp⟩
  | cons v vs ih =>
   intro rs h
   simp only[List.mapM_cons,Option.bind_eq_bind,Option.bind_eq_some_iff,Option.pure_def,Option.some.injEq]at h
   obtain⟨r0,hr0,rs',hrs',rfl⟩:=h
   obtain⟨x,hx1,hx2⟩:=yhk hr hr0
   obtain⟨xs,hxs1,hxs2,hxs3⟩:=ih rs' hrs'
   refine⟨x::xs,?_,by simp[hxs2],fun i r y hri hy=>?_⟩
   · rw[List.mapM_cons,Sem.run_bind,hx1]
     simp only[Result.andThen_ok,Sem.run_bind,hxs1,Sem.run_pure]
   · cases i with
     | zero=>simp at hri hy;subst hri;subst hy;exact hx2
     | succ i=>exact hxs3 i r y (by simpa using hri) (by simpa using hy)
 unfold yf7 at h
 rw[yf8]
 have hres:∀ (f:ResultVar→Sem Value),(fn.results.mapM f).run G.P E.w=((fn.results.toList.mapM f).run G.P E.w).andThen fun l w=>.ok l.toArray w:=by
  intro f
  rw[Array.mapM_eq_mapM_toList,Sem.run_map]
 split at h
 · rename_i v hv
   obtain⟨p,hp,ho⟩:=Option.bind_eq_some_iff.1 h
   obtain⟨x,hx1,hx2⟩:=yhk hr hp
   refine⟨x,?_,?_⟩
   · rw[Sem.run_bind,hres,hv,List.mapM_cons,List.mapM_nil]
     simp only[Sem.run_bind,Sem.run_pure,Result.andThen_ok]
     rw[hx1]
     rfl
   · cases p with
     | tup _=>cases ho
     | _=>(have h2:=(zvk hr hx2 ho).1;cases r<;>first|exact h2|(simp[outAV]at ho;done)|(simp only[outAV]at ho;split at ho<;>first|(cases ho;done)|(split at ho<;>cases ho)))
 · obtain⟨ps,hps,ho⟩:=Option.bind_eq_some_iff.1 h
   split at ho
   case isFalse=>cases ho
   rename_i hnd
   obtain⟨rs,hrs,rfl⟩:=Option.map_eq_some_iff.1 ho
   obtain⟨xs,hxs1,hxs2,hxs3⟩:=hmap _ ps hps
   have hone:xs.length≠1:=by
    rename_i hvs
    intro h1
    have hpl:ps.length=fn.results.toList.length:=by
     have:∀ (l:List ResultVar) (q:List AV),l.mapM (resAV G.P st)=some q→q.length=l.length:=by
      intro l
      induction l with
      | nil=>intro q h;simp at h;subst h;rfl
      | cons v l ih =>
       intro q h
       simp only[List.mapM_cons,Option.bind_eq_bind,Option.bind_eq_some_iff,Option.pure_def,Option.some.injEq]at h
       obtain⟨_,_,q',hq',rfl⟩:=h
       simp[ih q' hq']
     exact this _ _ hps
    have:fn.results.toList.length=1:=by omega
    obtain⟨v,hv⟩:=List.length_eq_one_iff.1 this
    exact hvs v hv
   have hout:∀ (qs ss:List AV),qs.mapM (outAV st)=some ss→ss.length=qs.length∧∀ (i:Nat) q,qs[i]? = some q→∃ s,ss[i]? = some s∧outAV st q=some s:=by
    intro qs
    induction qs with
    | nil=>intro ss h;simp at h;subst h;exact⟨rfl,by simp⟩
    | cons q qs ih =>
     intro ss h
     simp only[List.mapM_cons,Option.bind_eq_bind,Option.bind_eq_some_iff,Option.pure_def,Option.some.injEq]at h
     obtain⟨s,hs,ss',hss',rfl⟩:=h
     obtain⟨h1,h2⟩:=ih ss' hss'
     refine⟨by simp[h1],fun i q' hq'=>?_⟩
     cases i with
     | zero=>simp at hq';subst hq';exact⟨s,rfl,hs⟩
     | succ i=>obtain⟨s',hs',ho'⟩:=h2 i q' (by simpa using hq');exact⟨s',by simpa using hs',ho'⟩
   obtain⟨hsl,hsi⟩:=hout ps rs hrs
   have get:∀ (i:Nat) r,rs[i]? = some r→∃ q x,ps[i]? = some q∧xs[i]? = some x∧outAV st q=some r∧VR E q x:=by
    intro i r hri
    have hi:i < ps.length:=by rw[← hsl];exact (List.getElem?_eq_some_iff.1 hri).1
    have hq:=List.getElem?_eq_getElem hi
    have hx:=List.getElem?_eq_getElem (l:=xs) (i:=i) (by omega)
    obtain⟨s,hs,ho⟩:=hsi i _ hq
    rw[hri]at hs;cases hs
    exact⟨_,_,hq,hx,ho,hxs3 i _ _ hq hx⟩
   refine⟨.tuple xs.toArray,?_,xs.toArray,rfl,by simp[hsl,hxs2],fun i r hri=>?_,fun i j r r' b hij hri hrj hf hf' hb=>?_⟩
   · rw[Sem.run_bind,hres,hxs1]
     simp only[Result.andThen_ok,Sem.run_pure]
     rw[dif_neg (by simpa using hone)]
   · obtain⟨q,x,hq,hx,ho,hv⟩:=get i r hri
     have:(xs.toArray.getD i undef)=x:=by simp[Array.getD_eq_getD_getElem?,hx]
     rw[this];exact (zvk hr hv ho).1
   · obtain⟨q,x,hq,hx,ho,hv⟩:=get i r hri
     obtain⟨q',x',hq',hx',ho',hv'⟩:=get j r' hrj
     obtain⟨id,k,hid,hxi,hat⟩:=(zvk hr hv ho).2 hf
     obtain⟨id',k',hid',hxi',hat'⟩:=(zvk hr hv' ho').2 hf'
     have e1:(xs.toArray.getD i undef)=x:=by simp[Array.getD_eq_getD_getElem?,hx]
     have e2:(xs.toArray.getD j undef)=x':=by simp[Array.getD_eq_getD_getElem?,hx']
     rw[e1]at hb;rw[e2]
     rw[← hat]  at hb
     rw[← hat']
     refine hr.apart id id' b ?_ hb
     intro he
     subst he
     -- the two slots would hold one array
     have key:∀ (l:List AV) (i j:Nat) (p p':AV) (n:Nat),(l.filterMap refId).Nodup→i < j→l[i]? = some p→l[j]? = some p'→refId p=some n→refId p'=some n→False:=by
      intro l
      induction l with
      | nil=>intro i j p p' n _ _ h;simp at h
      | cons y l ih =>
       intro i j p p' n hnd hlt hp hp' hn hn'
       cases j with
       | zero=>omega
       | succ j =>
        cases i with
        | zero =>
         simp at hp;subst hp
         simp only[List.filterMap_cons,hn,List.nodup_cons]at hnd
         exact hnd.1 (List.mem_filterMap.2 ⟨p',List.mem_of_getElem? (by simpa using hp'),hn'⟩)
        | succ i =>
         refine ih i j p p' n ?_ (by omega) (by simpa using hp) (by simpa using hp') hn hn'
         rw[List.filterMap_cons]at hnd
         split at hnd
         · exact hnd
         · exact (List.nodup_cons.1 hnd).2
     rcases Nat.lt_or_gt_of_ne hij with h|h
     · exact key ps i j q q' id hnd h hq hq' (by rw[hid];rfl) (by rw[hid'];rfl)
     · exact key ps j i q' q id hnd h hq' hq (by rw[hid'];rfl) (by rw[hid];rfl)
theorem RR.to0 {E:Env} {base:Nat} {r:AV} {x:Value} (hp:PureR r) (h:RR E base r x):RR (env0 E.S E.w) base r x:=by
 by_cases ht:∃ rs,r=.tup rs
 · obtain⟨rs,rfl⟩:=ht
   obtain⟨us,h1,h2,h3,h4⟩:=h
   exact⟨us,h1,h2,fun i r hi=>RR1.to0 (hp r (List.mem_of_getElem? hi)) (h3 i r hi),h4⟩
 · have e1:∀ E,RR E base r x=RR1 E base r x:=fun E=>by cases r<;>first|rfl|exact absurd ⟨_,rfl⟩ ht
   have e2:PureR r=zat r:=by cases r<;>first|rfl|exact absurd ⟨_,rfl⟩ ht
   rw[e1]at h ⊢
   rw[e2]at hp
   exact RR1.to0 hp h
theorem WkR1.sound {E:Env} {base:Nat} {p q:AV} (h:WkR1 p q) {x:Value} (hx:RR1 E base p x):RR1 E base q x∧(q.isFresh=true→p=q∨x.ownBlock=none):=by
 cases h with
 | fresh e sz =>
  have hx:VR E _ x:=hx
  rw[hx.v_inv]
  exact⟨⟨[],⟨by simp,.inl ⟨rfl,rfl⟩⟩,by simp,⟨rfl,by simp⟩,fun b hb=>by simp[Value.ownBlock]at hb⟩,fun _=>.inr rfl⟩
 | one h =>
  by_cases he:p=q
  · subst he;exact⟨hx,fun _=>.inl rfl⟩
  · cases h with
    | one h =>
     cases h with
     | refl=>exact absurd rfl he
     | nil sz=>exact⟨Wk0.sound (.nil sz) (show VR E _ x from hx),fun h=>by cases h⟩
    | agg h=>exact⟨Wk.sound (.agg h) (show VR E _ x from hx),fun h=>by cases h⟩
    | lst h k=>exact⟨Wk.sound (.lst h k) (show VR E _ x from hx),fun h=>by cases h⟩
theorem WkR.sound {E:Env} {base:Nat} {p q:AV} (h:WkR p q) {x:Value} (hx:RR E base p x):RR E base q x:=by
 cases h with
 | one h =>
  by_cases he:p=q
  · subst he;exact hx
  · cases h with
    | fresh e sz=>exact (WkR1.sound (.fresh e sz) (show RR1 E base _ x from hx)).1
    | one h =>
     cases h with
     | one h =>
      cases h with
      | refl=>exact absurd rfl he
      | nil sz=>exact Wk0.sound (.nil sz) (show VR E _ x from hx)
     | agg h=>exact Wk.sound (.agg h) (show VR E _ x from hx)
     | lst h k=>exact Wk.sound (.lst h k) (show VR E _ x from hx)
 | @tup ps qs h =>
  obtain⟨h1,h2⟩:=h.get
  obtain⟨us,rfl,g1,g2,g3⟩:=hx
  have hp:∀ (i:Nat) q,qs[i]? = some q→∃ p,ps[i]? = some p∧WkR1 p q:=fun i q hi=>by
   have hlt:i < ps.length:=by rw[h1];exact (List.getElem?_eq_some_iff.1 hi).1
   exact⟨_,List.getElem?_eq_getElem hlt,h2 i _ _ (List.getElem?_eq_getElem hlt) hi⟩
  refine⟨us,rfl,by rw[← h1];exact g1,fun i q hi=>?_,fun i j q q' b hij hi hj hf hf' hb=>?_⟩
  · obtain⟨p,hpi,hw⟩:=hp i q hi
    exact (hw.sound (g2 i p hpi)).1
  · obtain⟨p,hpi,hw⟩:=hp i q hi
    obtain⟨p',hpj,hw'⟩:=hp j q' hj
    rcases (hw.sound (g2 i p hpi)).2 hf with rfl|h
    · rcases (hw'.sound (g2 j p' hpj)).2 hf' with rfl|h
      · exact g3 i j p p' b hij hpi hpj hf hf' hb
      · rw[h];intro h';cases h'
    · rw[h]at hb;cases hb
theorem PostR.ret {P:Program} {rvs:List ResultVar} {r:AV} {st:St} (h:yf7 P st rvs=some r):PostR P rvs r .ret st:=⟨[],r,h,.refl r⟩
theorem rets {P:Program} {rvs:List ResultVar} {r:AV} {st:St} (h:yf7 P st rvs=some r:=by simp[go_sem]):PostR P rvs r .ret st:=PostR.ret h
theorem PostR.normal {P:Program} {rvs:List ResultVar} {r:AV} {st:St} (h:yf7 P st rvs=some r):PostR P rvs r .normal st:=⟨[],r,h,.refl r⟩
theorem PostR.retW (ids:List Nat) {P:Program} {rvs:List ResultVar} {r r0:AV} {st:St} (h:yf7 P (st.freezes ids) rvs=some r0) (hw:WkR r0 r):PostR P rvs r .ret st:=⟨ids,r0,h,hw⟩
theorem VR.turn {E:Env} {w':World} (hc:∀ b o v,E.S b→E.w.cell? ⟨b,o,none⟩=some v→w'.cell? ⟨b,o,none⟩=some v) (hm:∀ b es clk,E.S b→E.w.heap[b]? = some (.map es clk)→w'.heap[b]? = some (.map es clk)) {p:AV} {x:Value} (h:VR E p x):VR { E with w:=w' } p x:=by
 induction h with
 | junk x=>exact .junk x
 | v x=>exact .v x
 | agg cs us hl _ ih=>exact .agg cs us hl ih
 | tup cs us hl _ ih=>exact .tup cs us hl ih
 | lst sz xs b off cap u hS h1 h2 h3 h4 _ ih=>exact .lst sz xs b off cap u hS h1 h2 (fun k hk=>hc _ _ _ hS (h3 k hk)) h4 ih
 | lstNil sz=>exact .lstNil sz
 | lstNo sz cap ad h=>exact .lstNo sz cap ad h
 | eptr cs j b off u hS h1 _ ih=>exact .eptr cs j b off u hS (fun k hk=>hc _ _ _ hS (h1 k hk)) ih
 | ref id k x h1 h2=>exact .ref id k x h1 h2
 | rptr id k i j x h1 h2=>exact .rptr id k i j x h1 h2
 | fn f first captured us vs h1 h2 _ _ ih1 ih2=>exact .fn f first captured us vs h1 h2 ih1 ih2
 | mapv es clk b hS h1=>exact .mapv es clk b hS (hm _ _ _ hS h1)
 | full sz xs ad _ ih=>exact .full sz xs ad ih
 | osl id k lo hi full x h1 h2=>exact .osl id k lo hi full x h1 h2
 | amapv m es clk b hS h1 h2 h3 _ ih=>exact .amapv m es clk b hS (hm _ _ _ hS h1) h2 h3 ih
 | iface t x v _ ih=>exact .iface t x v ih
theorem VRs.turn {E:Env} {w':World} (hc:∀ b o v,E.S b→E.w.cell? ⟨b,o,none⟩=some v→w'.cell? ⟨b,o,none⟩=some v) (hm:∀ b es clk,E.S b→E.w.heap[b]? = some (.map es clk)→w'.heap[b]? = some (.map es clk)) {ps:List AV} {xs:List Value} (h:VRs E ps xs):VRs { E with w:=w' } ps xs :=
 ⟨h.1,fun i a u ha hu=>(h.2 i a u ha hu).turn hc hm⟩
theorem BR.turn {E:Env} {w':World} {base:Nat} {o:Own} {blk:Blk} (hc:∀ b o v,E.S b→E.w.cell? ⟨b,o,none⟩=some v→w'.cell? ⟨b,o,none⟩=some v) (hm:∀ b es clk,E.S b→E.w.heap[b]? = some (.map es clk)→w'.heap[b]? = some (.map es clk))
 (hb:∀ b,blk.at o=some b→w'.heap[b]? = E.w.heap[b]?) (h:BR E base o blk):BR { E with w:=w' } base o blk:=by
 cases blk with
 | none=>trivial
 | arr e sz xs =>
  obtain⟨h1,us,hown,hlen,hvs,hblk⟩:=h
  refine⟨h1,us,?_,hlen,hvs.turn hc hm,hblk⟩
  refine⟨hown.1,?_⟩
  rcases hown.2 with hn|⟨g,cap,cur,hv,hg,hh,r⟩
  · exact .inl hn
  · exact .inr ⟨g,cap,cur,hv,hg,by show w'.heap[g]? = _;rw[hb g (by simp[Blk.at,hv,Value.ownBlock])];exact hh,r⟩
 | box cs =>
  obtain⟨us,t,hh,h1,h2,h3⟩:=h
  exact⟨us,t,by show w'.heap[o.blk]? = _;rw[hb o.blk rfl];exact hh,h1,h2,h3.turn hc hm⟩
 | map es clk =>
  obtain⟨hh,h1,h2,h3⟩:=h
  exact⟨by show w'.heap[o.blk]? = _;rw[hb o.blk rfl];exact hh,h1,h2,h3⟩
 | obj x =>
  obtain⟨hh,h2,h3⟩:=h
  exact⟨by show w'.heap[o.blk]? = _;rw[hb o.blk rfl];exact hh,h2,h3⟩
 | iter es clk done =>
  obtain⟨b,hS,hm',hh,h⟩:=h
  exact⟨b,hS,hm b es clk hS hm',by show w'.heap[o.blk]? = _;rw[hb o.blk rfl];exact hh,h⟩
 | amap m =>
  obtain⟨es,clk,hh,h1,h2,h3,h4,h5⟩:=h
  exact⟨es,clk,by show w'.heap[o.blk]? = _;rw[hb o.blk rfl];exact hh,h1,h2,h3,⟨h4.1,h4.2.1,fun n a v ha hv=>(h4.2.2 n a v ha hv).turn hc hm⟩,h5⟩
theorem zer {B:Nat} {a w:World} (h:Below B a w) {r:Nat} (hr:B≤r) (o:Obj):Below B a (w.putObj r o) :=
 ⟨h.os,h.tape,h.output,by rw[World.putObj_size];exact h.size,fun k hk=>by rw[World.putObj_heap_other (by omega)];exact h.block k hk⟩
theorem Rel.shutMark {G:Ctx} {st:St} {E:Env} {a:Act} (hr:Rel G st E a) {d:Deferred} {ds:List Deferred} (hd:a.defers=d::ds) :
 ∃ r,d=⟨.collected r,#[]⟩∧E.w.heap[r]? = some (.deferred (some []))∧Rel G st { E with w:=E.w.putObj r (.deferred none) } { a with defers:=ds }:=by
 obtain⟨r,h1,h2,h3,h4,h5⟩:=hr.defers d (by rw[hd];simp)
 have hc:∀ b o v,E.S b→E.w.cell? ⟨b,o,none⟩=some v→(E.w.putObj r (.deferred none)).cell? ⟨b,o,none⟩=some v:=fun b o v _ hv=>by
  by_cases hb:b=r
  · subst hb;simp[World.cell?,h4]at hv
  · rw[World.cell?_of_block (w:=E.w) (by exact World.putObj_heap_other hb)];exact hv
 have hm:∀ b es clk,E.S b→E.w.heap[b]? = some (.map es clk)→(E.w.putObj r (.deferred none)).heap[b]? = some (.map es clk):=fun b es clk _ hv=>by
  by_cases hb:b=r
  · subst hb;rw[h4]at hv;cases hv
  · rw[World.putObj_heap_other hb];exact hv
 have hon:=hr.once
 rw[hd,List.pairwise_cons]at hon
 refine⟨r,h1,h4,hr.size,fun d' hd'=>?_,hon.2,fun E0 he=>?_,hr.ver,zer hr.below h3 _,fun b hb=>by rw[World.putObj_size];exact hr.Slt b hb,hr.S0,hr.Snew,fun j=>(hr.slots j).turn hc hm,fun id=>(hr.blocks id).turn hc hm fun b hb=>?_,hr.apart⟩
 · obtain⟨r',g1,g2,g3,g4,g5⟩:=hr.defers d' (by rw[hd];exact .tail _ hd')
   refine⟨r',g1,g2,g3,?_,g5⟩
   have hne:r'≠r:=fun he=>hon.1 d' hd' (by rw[h1,g1,he])
   show (E.w.putObj r (.deferred none)).heap[r']? = _
   rw[World.putObj_heap_other hne];exact g4
 · have h0:=hr.le0 E0 he
   exact⟨h0.S,fun b hb=>by
    show (E.w.putObj r (.deferred none)).heap[b]? = _
    have hne:b≠r:=fun hbr=>h5 E0 he (by rw[← hbr];exact hb)
    rw[World.putObj_heap_other hne];exact h0.heap b hb,h0.ver,h0.own⟩
 · have hne:b≠r:=fun he=>((hr.blocks id).at_lt hb).2.2 (he ▸ h2)
   exact World.putObj_heap_other hne
theorem zqd {G:Ctx} {st:St} {fn:Func} {R:Ending→World→Prop}:∀ (ds:List Deferred) {E:Env} {a:Act},a.defers=ds→Rel G st E a →
 (∀ E',Rel G st E' { a with defers:=[] }→∃ v,(results fn a.tmps).run G.P E'.w=.ok v E'.w∧R (.returned v) E'.w)→LeavesInM Fence.wide 0 G.P fn a.tmps R ds .returning E.w
 | [],E,a,hd,hr,h=>by
  obtain⟨tm,df⟩:=a
  simp only at hd
  subst hd
  exact h E hr
 | d::ds,E,a,hd,hr,h=>by
  obtain⟨r,h1,h2,h3⟩:=hr.shutMark hd
  refine⟨by simp,.inl ⟨r,E.w.putObj r (.deferred none),by rw[h1],run_takeDeferred h2,?_⟩⟩
  exact zqd ds (a:={ a with defers:=ds }) rfl h3 h
theorem AC.of_body {P:Program} {f:FuncId} {fn:Func} {c:Code} {args:List AV} {r:AV} {n:Nat} {rvs:List ResultVar} (hf:P.funcs[f]? = some fn) (hb:fn.body=some c) (hname:(fn.name == "runtime.NumGoroutine")=false) (hnt:fn.ntmps=n) (hrv:fn.results.toList=rvs) (hn:args.length≤n)
 (hargs:∀ p∈args,Pure p) (hr:PureR r) (h:∀ (w:World) (S:Nat→Prop),AWp ⟨P,w,S,n,none,fun d=>d,none⟩ c (PostR P rvs r) (ykc args)):AC P f args r:=by
 subst hnt;subst hrv
 refine⟨⟨fn,hf,by rw[hb];rfl,hname⟩,hargs,hr,fun S w vs hS hl hv=>?_⟩
 let a:Act:={ tmps:=vs++Array.replicate (fn.ntmps - vs.size) undef,defers:=[] }
 have hrel:Rel ⟨P,w,S,fn.ntmps,none,fun d=>d,none⟩ (ykc args) (env0 S w) a:=by
  refine⟨by simp[a];omega,fun d hd=>(by simp[a]at hd),List.Pairwise.nil,fun E0 h=>(by cases h),rfl,Below.refl _ _,hS,fun _ h=>h,fun _ h=>.inl h,fun j=>?_,fun _=>trivial,fun id id' b _ hb=>by cases hb⟩
  simp only[ykc,zd4]
  by_cases hj:j < args.length
  · have e:a.tmps.getD j undef=vs.getD j undef:=by
     have hj':j < vs.size:=by omega
     simp[a,Array.getD_eq_getD_getElem?,Array.getElem?_append,hj']
    rw[e]
    have:=hv j args[j] (List.getElem?_eq_getElem hj)
    simpa [List.getD,hj] using this
  · have:args.getD j .junk=.junk:=by simp[List.getD,List.getElem?_eq_none (Nat.le_of_not_lt hj)]
    rw[this];exact .junk _
 rw[← callsIn_wide (n:=0)]
 refine callsIn_of_wp_marks hf hb trivial (wpIn_mono (h w S _ a hrel) ?_)
 rintro e a' w' ⟨st',E',rfl,h2,h3⟩
 have fin:(∃ ids r0,yf7 P (st'.freezes ids) fn.results.toList=some r0∧WkR r0 r)→LeavesInM Fence.wide 0 P fn a'.tmps (fun e w'=>∃ v S',e=.returned v∧Below w.heap.size w w'∧(∀ b,S b→S' b)∧(∀ b,S' b→S b∨w.heap.size≤b)∧(∀ b,S' b→b < w'.heap.size)∧RR (env0 S' w') w.heap.size r v) a'.defers .returning E'.w:=by
  rintro⟨ids,r0,hr0,hw⟩
  obtain⟨E2,hE,h2⟩:=h2.freezes ids
  rw[← hE]
  refine zqd _ rfl h2 fun E3 h3=>?_
  obtain⟨x,hx1,hx2⟩:=yhm h3 fn r0 hr0
  exact⟨x,hx1,x,E3.S,rfl,h3.below,h3.S0,h3.Snew,h3.Slt,RR.to0 hr (hw.sound hx2)⟩
 cases e with
 | normal=>exact fin h3
 | ret=>exact fin h3
 | exit id=>exact h3.elim
 | goto l=>exact h3.elim
 | panic c=>exact h3.elim
 | outgrown=>exact h3.elim
theorem AC.ob {P:Program} {f:FuncId} {fn:Func} {c:Code} {args:List AV} {r:AV} {n:Nat} {rvs:Array ResultVar} (hf:P.funcs[f]? = some fn) (hnt:fn.ntmps=n) (hrv:fn.results=rvs) (hargs:∀ p∈args,Pure p) (hr:PureR r) (h:∀ (w:World) (S:Nat→Prop),AWp ⟨P,w,S,n,none,fun d=>d,none⟩ c (PostR P rvs.toList r) (ykc args)) (hb:fn.body=some c:=by rfl) (hname:(fn.name == "runtime.NumGoroutine")=false:=by rfl) (hn:args.length≤n:=by simp):AC P f args r:=AC.of_body hf hb hname hnt (congrArg Array.toList hrv) hn hargs hr h
end Go.Abs
