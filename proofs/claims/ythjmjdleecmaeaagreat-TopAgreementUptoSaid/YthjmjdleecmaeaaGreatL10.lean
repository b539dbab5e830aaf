/- Several texts of the proof in one: Fo. No condition. -/
import Derived.Test.YthjmjdleecmaeaaGreatL09
set_option linter.unusedSimpArgs false
set_option linter.unusedVariables false
set_option maxHeartbeats 4000000
set_option maxRecDepth 8000
namespace Go.Abs
open Go Go.RowKit
def St.mem (st s:St):St:={ σ:=st.σ,ver:=s.ver,h:=s.h }
section
variable {G:Ctx} {st:St} {E:Env} {a:Act}
theorem Rel.enter (hr:Rel G st E a) {n:Nat} {rnd:Option Nat} {ids:Nat→Nat} {args:List AV} {vs:Array Value} (hl:vs.size=args.length) (hn:args.length≤n) (hv:∀ (i:Nat) p,args[i]? = some p→VR E p (vs.getD i undef)) :
 Rel ⟨G.P,G.w0,G.S0,n,rnd,ids,some E⟩ ⟨argAt args,st.ver,st.h⟩ E { tmps:=vs++Array.replicate (n - vs.size) undef,defers:=[] }:=by
 refine⟨by simp;omega,fun d hd=>(by simp at hd),List.Pairwise.nil,fun E0 h=>(by cases h;exact .refl _),hr.ver,hr.below,hr.Slt,hr.S0,hr.Snew,fun j=>?_,hr.blocks,hr.apart⟩
 simp only[zd4]
 by_cases hj:j < args.length
 · have e:(vs++Array.replicate (n - vs.size) undef).getD j undef=vs.getD j undef:=by
    have hj':j < vs.size:=by omega
    simp[Array.getD_eq_getD_getElem?,Array.getElem?_append,hj']
   rw[e]
   have:=hv j args[j] (List.getElem?_eq_getElem hj)
   simpa [List.getD,hj] using this
 · have:args.getD j .junk=.junk:=by simp[List.getD,List.getElem?_eq_none (Nat.le_of_not_lt hj)]
   rw[this];exact .junk _
theorem Rel.back (hr:Rel G st E a) {G':Ctx} {s':St} {E':Env} {a':Act} (hr':Rel G' s' E' a') (hw:G'.w0=G.w0) (hS:G'.S0=G.S0) (he:G'.e0=some E):Rel G (st.mem s') E' a:=by
 have hle:E.Le E':=hr'.le0 E he
 exact⟨hr.size,hr.defersLe hle,hr.once,hr.le0Le hle,hr'.ver,by rw[← hw];exact hr'.below,hr'.Slt,by rw[← hS];exact hr'.S0,by rw[← hS,← hw];exact hr'.Snew,fun j=>(hr.slots j).mono hle,by rw[← hw];exact hr'.blocks,hr'.apart⟩
def resIn (P:Program) (s:St):List ResultVar→Option AV
 | [v]=>resAV P s v
 | vs=>(vs.mapM (resAV P s)).map .tup
theorem yhl (hr:Rel G st E a) (fn:Func) (r:AV) (h:resIn G.P st fn.results.toList=some r):∃ x,(results fn a.tmps).run G.P E.w=.ok x E.w∧VR E r x:=by
 have hmap:∀ (vs:List ResultVar) (rs:List AV),vs.mapM (resAV G.P st)=some rs →
  ∃ xs:List Value,(vs.mapM (yf3 a.tmps)).run G.P E.w=.ok xs E.w∧rs.length=xs.length∧vs.length=xs.length ∧
   ∀ (i:Nat) r x,rs[i]? = some r→xs[i]? = some x→VR E r x:=by
  intro vs
  induction vs with
  | nil=>intro rs h;simp at h;subst h;exact⟨[],by simp,rfl,rfl,by simp⟩
  | cons v vs ih =>
   intro rs h
   simp only[List.mapM_cons,Option.bind_eq_bind,Option.bind_eq_some_iff,Option.pure_def,Option.some.injEq]at h
   obtain⟨r0,hr0,rs',hrs',rfl⟩:=h
   obtain⟨x,hx1,hx2⟩:=yhk hr hr0
   obtain⟨xs,hxs1,hxs2,hxs4,hxs3⟩:=ih rs' hrs'
   refine⟨x::xs,?_,by simp[hxs2],by simp[hxs4],fun i r y hri hy=>?_⟩
   · rw[List.mapM_cons,Sem.run_bind,hx1]
     simp only[Result.andThen_ok,Sem.run_bind,hxs1,Sem.run_pure]
   · cases i with
     | zero=>simp at hri hy;subst hri;subst hy;exact hx2
     | succ i=>exact hxs3 i r y (by simpa using hri) (by simpa using hy)
 rw[yf8]
 have hres:∀ (f:ResultVar→Sem Value),(fn.results.mapM f).run G.P E.w=((fn.results.toList.mapM f).run G.P E.w).andThen fun l w=>.ok l.toArray w:=by
  intro f
  rw[Array.mapM_eq_mapM_toList,Sem.run_map]
 unfold resIn at h
 split at h
 · rename_i v hv
   obtain⟨x,hx1,hx2⟩:=yhk hr h
   refine⟨x,?_,hx2⟩
   rw[Sem.run_bind,hres,hv,List.mapM_cons,List.mapM_nil]
   simp only[Sem.run_bind,Sem.run_pure,Result.andThen_ok]
   rw[hx1]
   rfl
 · rename_i hvs
   obtain⟨rs,hrs,rfl⟩:=Option.map_eq_some_iff.1 h
   obtain⟨xs,hxs1,hxs2,hxs4,hxs3⟩:=hmap _ rs hrs
   have hone:xs.length≠1:=fun h1=>by
    obtain⟨v,hv⟩:=List.length_eq_one_iff.1 (hxs4.trans h1)
    exact hvs v hv
   refine⟨.tuple xs.toArray,?_,.tup _ _ (by simpa using hxs2) fun i c hi=>?_⟩
   · rw[Sem.run_bind,hres,hxs1]
     simp only[Result.andThen_ok,Sem.run_pure]
     rw[dif_neg (by simpa using hone)]
   · have hi':i < xs.length:=by rw[← hxs2];exact (List.getElem?_eq_some_iff.1 hi).1
     have:=hxs3 i c xs[i] hi (List.getElem?_eq_getElem hi')
     simpa [Array.getD_eq_getD_getElem?,hi'] using this
def PostIn (P:Program) (rvs:List ResultVar) (st:St) (dst:Option Tmp) (K:St→Prop):Exit→St→Prop
 | .normal,s|.ret,s=>∃ ids r,resIn P (s.freezes ids) rvs=some r∧K ((st.mem (s.freezes ids)).put dst r)
 | _,_=>False
theorem PostIn.ret {P:Program} {rvs:List ResultVar} {dst:Option Tmp} {K:St→Prop} {s:St} {r:AV} (h:resIn P s rvs=some r) (hk:K ((st.mem s).put dst r)):PostIn P rvs st dst K .ret s:=⟨[],r,h,hk⟩
theorem PostIn.normal {P:Program} {rvs:List ResultVar} {dst:Option Tmp} {K:St→Prop} {s:St} {r:AV} (h:resIn P s rvs=some r) (hk:K ((st.mem s).put dst r)):PostIn P rvs st dst K .normal s:=⟨[],r,h,hk⟩
theorem zf1 (hr:Rel G st E a) {g:FuncId} {fn:Func} {c:Code} {args:List AV} {vs:Array Value} {n:Nat} {ids:Nat→Nat} {R:Ending→World→Prop} {QI:St→Prop} (hf:G.P.funcs[g]? = some fn) (hb:fn.body=some c) (hnt:fn.ntmps=n) (hn:args.length≤n)
 (hl:vs.size=args.length) (hv:∀ (i:Nat) p,args[i]? = some p→VR E p (vs.getD i undef))
 (h:AWp ⟨G.P,G.w0,G.S0,n,none,ids,some E⟩ c (fun e s=>(e=.normal∨e=.ret)∧QI s) ⟨argAt args,st.ver,st.h⟩)
 (hend:∀ s E' a',Rel ⟨G.P,G.w0,G.S0,n,none,ids,some E⟩ s E' a'→QI s→∃ x,(results fn a'.tmps).run G.P E'.w=.ok x E'.w∧R (.returned x) E'.w):CallsIn Fence.wide 0 G.P g vs E.w R:=by
 subst hnt
 have hrel:=hr.enter (n:=fn.ntmps) (rnd:=none) (ids:=ids) hl hn hv
 refine callsIn_of_wp_marks hf hb trivial (wpIn_mono (h E _ hrel) ?_)
 rintro e a' w' ⟨s,E',rfl,h2,he,hq⟩
 have fin:LeavesInM Fence.wide 0 G.P fn a'.tmps R a'.defers .returning E'.w:=zqd (G:=⟨G.P,G.w0,G.S0,fn.ntmps,none,ids,some E⟩) (st:=s) _ rfl h2 fun E3 h3=>hend s E3 { a' with defers:=[] } h3 hq
 rcases he with rfl|rfl
 · exact fin
 · exact fin
theorem CallSem.inline (sh:Nat) {g:FuncId} {fn:Func} {c:Code} {args:List AV} {dst:Option Tmp} {K:St→Prop} {n:Nat} {rvs:List ResultVar} (hf:G.P.funcs[g]? = some fn) (hb:fn.body=some c) (hname:(fn.name == "runtime.NumGoroutine")=false) (hnt:fn.ntmps=n) (hrv:fn.results.toList=rvs) (hn:args.length≤n) (hd:dstOK G.n dst)
 (h:∀ e0,AWp ⟨G.P,G.w0,G.S0,n,none,fun d=>d+sh,e0⟩ c (PostIn G.P rvs st dst K) ⟨argAt args,st.ver,st.h⟩):CallSem G g args dst K st:=by
 refine⟨⟨fn,hf,by rw[hb];rfl,hname⟩,fun E a vs hr hl hv=>?_⟩
 rw[← callsIn_wide (n:=0)]
 refine zf1 hr (QI:=fun s=>∃ ids r,resIn G.P (s.freezes ids) rvs=some r∧K ((st.mem (s.freezes ids)).put dst r)) hf hb hnt hn hl hv (AWp.mono (h (some E)) ?_) ?_
 · intro e s hq
   cases e with
   | normal=>exact⟨.inl rfl,hq⟩
   | ret=>exact⟨.inr rfl,hq⟩
   | _=>exact hq.elim
 · rintro s E' a' hr' ⟨fz,r,hres,hk⟩
   obtain⟨E2,hw2,hr2⟩:=hr'.freezes fz
   subst hrv
   obtain⟨x,hx1,hx2⟩:=yhl hr2 fn r hres
   rw[hw2]at hx1
   refine⟨x,hx1,x,rfl,_,E2,hw2,(hr.back hr2 rfl rfl rfl).put hx2 (fun d he=>by rw[he]at hd;exact hd),hk⟩
def recB (r:Loop) (s:LoopState) (p:Option Code):Blk:=.obj (.loop { r with state:=s,pending:=p })
theorem Rel.objSet (hr:Rel G st E a) {id:Nat} {x:Obj} (hh:st.h id=.obj x) (y:Obj):Rel G (st.setH id (.obj y)) { E with w:=E.w.putObj (E.own id).blk y } a:=by
 have hb:=hr.blocks id
 rw[hh]at hb
 obtain⟨h1,h2,h3⟩:=hb
 have hlt:=(Array.getElem?_eq_some_iff.1 h1).1
 have hr':=hr.own (E':={ E with w:=E.w.putObj (E.own id).blk y }) id (.obj y) (E.own id) (E.ver id) (by funext j;by_cases h:j=id<;>simp[upd,h]) (Nat.le_refl _) (by funext j;by_cases h:j=id<;>simp[upd,h]) (fun _=>rfl) rfl
  (zer hr.below h2 _) (by rw[World.putObj_size];exact Nat.le_refl _) (fun b hb hne=>World.putObj_heap_other (fun he=>hne (by rw[hh,he];rfl))) ⟨World.putObj_heap_same hlt,h2,h3⟩ (fun b hb=>.inl (by rw[hh];exact hb))
 have he:upd st.ver id (E.ver id)=st.ver:=by funext j;by_cases h:j=id<;>simp[upd,h,hr.ver]
 rw[he]at hr'
 exact hr'
def zjz (σ:Nat→AV):List Tmp→List AV→Nat→AV
 | t::ts,v::vs=>zjz (upd σ t v) ts vs
 | _,_=>σ
theorem zj0 {E:Env} {n:Nat}:∀ (ps:List Tmp) (args:List AV) (vs:List Value) (σ:Nat→AV) (tm:Array Value),tm.size=n→(∀ t∈ps,t < n)→args.length=vs.length→(∀ j,VR E (σ j) (tm.getD j undef))→(∀ (i:Nat) p v,args[i]? = some p→vs[i]? = some v→VR E p v) →
 ((ps.zip vs).foldl (fun tmps (x:Tmp×Value)=>tmps.setIfInBounds x.1 x.2) tm).size=n∧∀ j,VR E (zjz σ ps args j) (((ps.zip vs).foldl (fun tmps (x:Tmp×Value)=>tmps.setIfInBounds x.1 x.2) tm).getD j undef)
 | [],args,vs,σ,tm,hs,_,_,h,_=>by cases args<;>exact⟨hs,h⟩
 | t::ps,[],[],σ,tm,hs,_,_,h,_=>⟨hs,h⟩
 | t::ps,[],v::vs,σ,tm,hs,_,hl,h,_=>by simp at hl
 | t::ps,p::args,[],σ,tm,hs,_,hl,h,_=>by simp at hl
 | t::ps,p::args,v::vs,σ,tm,hs,hlt,hl,h,hv=>by
  simp only[List.zip_cons_cons,List.foldl_cons,zjz]
  refine zj0 ps args vs (upd σ t p) (tm.setIfInBounds t v) (by simpa using hs) (fun t' h'=>hlt t' (.tail _ h')) (by simpa using hl) (fun j=>?_) fun i p' v' h1 h2=>hv (i+1) p' v' (by simpa using h1) (by simpa using h2)
  have htn:=hlt t (by simp)
  by_cases hj:j=t
  · subst hj
    simp only[upd,if_true]
    have:(tm.setIfInBounds j v).getD j undef=v:=by simp[Array.getD_eq_getD_getElem?,hs,htn]
    rw[this];exact hv 0 p v rfl rfl
  · simp only[upd,hj,if_false]
    have:(tm.setIfInBounds t v).getD j undef=tm.getD j undef:=by simp[Array.getD_eq_getD_getElem?,Array.getElem?_setIfInBounds_ne (Ne.symm hj)]
    rw[this];exact h j
def zaq (R V:Nat) (r:Loop) (si:St) (dst:Option Tmp) (K:St→Prop):Exit→St→Prop
 | .normal,s=>(s.ver R=V∧s.h R=recB r .busy none)∧K ((si.mem (s.setH R (recB r .ready none))).put dst (.v (.bool true)))
 | .ret,s=>(s.ver R=V∧s.h R=recB r .busy none)∧K ((si.mem (s.setH R (recB r .done (some .ret)))).put dst (.v (.bool false)))
 | .exit id,s=>(s.ver R=V∧s.h R=recB r .busy none)∧K ((si.mem (s.setH R (recB r .done (some (.exit id))))).put dst (.v (.bool false)))
 | _,_=>False
def PostAssign (G:Ctx) (l R V:Nat) (r:Loop) (body:Code) (Q:Exit→St→Prop):Exit→St→Prop
 | .normal,s=>(s.ver R=V∧s.h R=recB r .ready none)∧∀ e0,AWp ⟨G.P,G.w0,G.S0,G.n,some l,G.ids,e0⟩ body Q (s.setH R (recB r .busy none))
 | _,_=>False
theorem PostAssign.mono {G:Ctx} {l R V:Nat} {r:Loop} {body:Code} {Q Q':Exit→St→Prop} (hq:∀ e s,Q e s→Q' e s) {e:Exit} {s:St} (h:PostAssign G l R V r body Q e s):PostAssign G l R V r body Q' e s:=by
 cases e with
 | normal=>exact⟨h.1,fun e0=>AWp.mono (h.2 e0) hq⟩
 | _=>exact h
structure LoopOf (G:Ctx) (st:St) (ps:Array Tmp) (assign body:Code) (R V l:Nat) (r:Loop) (G':Ctx):Prop where
 P:G'.P=G.P
 w0:G'.w0=G.w0
 S0:G'.S0=G.S0
 F:G'.F=Fence.wide
 ex:∃ (E0:Env) (a0:Act),G'.e0=some E0∧r.tmps=a0.tmps∧a0.tmps.size=G.n∧(∀ j,VR E0 (st.σ j) (a0.tmps.getD j undef))∧E0.ver R=V∧(E0.own R).blk=l
 params:r.params=ps
 assign:r.assign=assign
 body:r.body=body
theorem YieldSem.round {G:Ctx} {st:St} {ps:Array Tmp} {assign body:Code} {R V l:Nat} {r:Loop} {G':Ctx} (L:LoopOf G st ps assign body R V l r G') {args:List AV} {dst:Option Tmp} {K:St→Prop} {si:St} (hd:dstOK G'.n dst) (hargs:args.length=ps.size) (hps:∀ t∈ps.toList,t < G.n)
 (hV:si.ver R=V) (hR:si.h R=recB r .ready none)
 (h:∀ e0,AWp ⟨G.P,G.w0,G.S0,G.n,some l,G.ids,e0⟩ assign (PostAssign G l R V r body (zaq R V r si dst K)) ⟨zjz st.σ ps.toList args,si.ver,si.h⟩):YieldSem G' l args dst K si:=by
 intro E a vs hr hl hv
 obtain⟨E0,a0,he0,htm,hsz,hsl,hv0,hl0⟩:=L.ex
 have hle:=hr.le0 E0 he0
 have hown:(E.own R).blk=l:=by rw[hle.own R (by rw[hv0,hr.ver,hV]),hl0]
 have hblk:=hr.blocks R
 rw[hR]at hblk
 obtain⟨g1,g2,g3⟩:=hblk
 rw[hown]at g1
 rw[L.P]
 refine⟨r.fn,_,r.assign,r.body,run_yield (r:={ r with state:=.ready,pending:=none }) g1 (by simp[L.params,hl,hargs]),?_⟩
 have hF:G'.F=Fence.wide:=L.F
 rw[hF]
 refine roundIn_of_wpIn trivial ?_
 have hvs:∀ (i:Nat) p v,args[i]? = some p→vs.toList[i]? = some v→VR E p v:=fun i p v hp hv'=>by
  have:=hv i p hp
  rw[Array.getElem?_toList]at hv'
  simpa [Array.getD_eq_getD_getElem?,hv'] using this
 obtain⟨hsz',hslots⟩:=zj0 (E:=E) ps.toList args vs.toList st.σ r.tmps (by rw[htm];exact hsz) hps (by simpa using hl.symm) (fun j=>by rw[htm];exact (hsl j).mono hle) hvs
 have hfold:(r.params.zip vs).foldl (fun tmps (x:Tmp×Value)=>tmps.setIfInBounds x.1 x.2) r.tmps=(ps.toList.zip vs.toList).foldl (fun tmps (x:Tmp×Value)=>tmps.setIfInBounds x.1 x.2) r.tmps:=by
  rw[L.params,← Array.foldl_toList];simp
 have hrel:Rel ⟨G.P,G.w0,G.S0,G.n,some l,G.ids,some E⟩ ⟨zjz st.σ ps.toList args,si.ver,si.h⟩ E { tmps:=(ps.toList.zip vs.toList).foldl (fun tmps (x:Tmp×Value)=>tmps.setIfInBounds x.1 x.2) r.tmps,defers:=[] }:=by
  refine⟨hsz',fun d hd=>(by simp at hd),List.Pairwise.nil,fun E0 h=>(by cases h;exact .refl _),hr.ver,by rw[← L.w0];exact hr.below,hr.Slt,by rw[← L.S0];exact hr.S0,by rw[← L.S0,← L.w0];exact hr.Snew,hslots,by rw[← L.w0];exact hr.blocks,hr.apart⟩
 have hw:=h (some E) E _ hrel
 rw[L.assign,L.body]
 have hrew:({ tmps:=(r.params.zip vs).foldl (fun tmps (x:Tmp×Value)=>tmps.setIfInBounds x.1 x.2) r.tmps,defers:=[] }:Act)={ tmps:=(ps.toList.zip vs.toList).foldl (fun tmps (x:Tmp×Value)=>tmps.setIfInBounds x.1 x.2) r.tmps,defers:=[] }:=by rw[hfold]
 refine (congrArg (fun x=>Code.wpIn (Fence.wide.inRound l) 0 G.P assign _ x E.w) hrew).mpr ?_
 refine wpIn_mono hw ?_
 rintro e a1 w1 ⟨s1,E1,rfl,hr1,hq⟩
 cases e with
 | normal =>
  obtain⟨⟨hv1,hR1⟩,hbody⟩:=hq
  have hle1:E.Le E1:=hr1.le0 E rfl
  have hown1:(E1.own R).blk=l:=by rw[hle1.own R (by rw[hr1.ver,hv1,hr.ver,hV]),hown]
  have hb1:=hr1.blocks R
  rw[hR1]at hb1
  have hrec:=hb1.1
  rw[hown1]at hrec
  refine⟨_,run_beginRound hrec rfl,?_⟩
  have hr1':=hr1.objSet hR1 (.loop { r with state:=.busy,pending:=none })
  rw[hown1]at hr1'
  have hw2:=hbody (some E) _ _ hr1'
  refine wpIn_mono hw2 ?_
  rintro e a2 w2 ⟨s2,E2,rfl,hr2,hq2⟩
  have hle2:E.Le E2:=hr2.le0 E rfl
  have fin:∀ (ls:LoopState) (j:Option Code),s2.ver R=V→s2.h R=recB r .busy none→Rel G' (si.mem (s2.setH R (recB r ls j))) { E2 with w:=E2.w.putObj l (.loop { r with state:=ls,pending:=j }) } a∧E2.w.heap[l]? = some (.loop { r with state:=.busy,pending:=none }):=fun ls j hv2 hR2=>by
   have hown2:(E2.own R).blk=l:=by rw[hle2.own R (by rw[hr2.ver,hv2,hr.ver,hV]),hown]
   have hb2:=hr2.blocks R
   rw[hR2]at hb2
   have hrec2:=hb2.1
   rw[hown2]at hrec2
   have h3:=hr2.objSet hR2 (.loop { r with state:=ls,pending:=j })
   rw[hown2]at h3
   exact⟨hr.back h3 L.w0.symm L.S0.symm rfl,hrec2⟩
  cases e with
  | normal =>
   obtain⟨⟨hv2,hR2⟩,hk⟩:=hq2
   obtain⟨h4,h5⟩:=fin .ready none hv2 hR2
   exact⟨_,_,run_endRound none h5,_,rfl,_,_,rfl,h4.put (.v _) (fun d he=>by rw[he]at hd;exact hd),hk⟩
  | ret =>
   obtain⟨⟨hv2,hR2⟩,hk⟩:=hq2
   obtain⟨h4,h5⟩:=fin .done (some .ret) hv2 hR2
   exact⟨_,_,run_endRound (some .ret) h5,_,rfl,_,_,rfl,h4.put (.v _) (fun d he=>by rw[he]at hd;exact hd),hk⟩
  | exit id =>
   obtain⟨⟨hv2,hR2⟩,hk⟩:=hq2
   obtain⟨h4,h5⟩:=fin .done (some (.exit id)) hv2 hR2
   exact⟨_,_,run_endRound (some (.exit id)) h5,_,rfl,_,_,rfl,h4.put (.v _) (fun d he=>by rw[he]at hd;exact hd),hk⟩
  | goto _=>exact hq2.elim
  | panic _=>exact hq2.elim
  | outgrown=>exact hq2.elim
 | _=>exact hq.elim
def zao (G:Ctx) (st:St) (R V:Nat) (r:Loop) (Q:Exit→St→Prop):Exit→St→Prop
 | .normal,s|.ret,s=>s.ver R=V∧((s.h R=recB r .ready none∧Q .normal (st.mem (s.setH R .none)))∨(∃ c,s.h R=recB r .done (some c)∧AWp G c Q (st.mem (s.setH R .none))))
 | _,_=>False
theorem Rel.objOwn (hr:Rel G st E a) (o:Obj) (id:Nat) :
 ∃ E',E'.w=E.w.alloc o∧E'.S=E.S∧Rel G { st with ver:=upd st.ver id (st.ver id+1),h:=upd st.h id (.obj o) } E' a∧(E'.own id).blk=E.w.heap.size∧E.Le E':=by
 have hve:E.ver id=st.ver id:=by rw[hr.ver]
 have hle:E.Le { ver:=upd E.ver id (st.ver id+1),own:=upd E.own id ⟨.pointer none,E.w.heap.size,0⟩,S:=E.S,w:=E.w.alloc o } :=
  ⟨fun _ h=>h,fun b hb=>znk _ _ b (hr.Slt b hb),fun j=>by by_cases h:j=id<;>simp[upd,h,hve],fun j hj=>by
   by_cases h:j=id
   · subst h;simp[upd,hve]at hj
   · simp[upd,h]⟩
 refine⟨{ ver:=upd E.ver id (st.ver id+1),own:=upd E.own id ⟨.pointer none,E.w.heap.size,0⟩,S:=E.S,w:=E.w.alloc o },rfl,rfl,?_,by simp[upd],hle⟩
 refine hr.own id (.obj o) ⟨.pointer none,E.w.heap.size,0⟩ (st.ver id+1) rfl (by omega) rfl (fun h=>by omega) rfl (hr.below.alloc hr.below.size _) (by simp) (fun b hb _=>znk _ _ b hb) ?_ ?_
 · exact⟨heap_alloc_new _ _,hr.below.size,fun h=>absurd (hr.Slt _ h) (by simp)⟩
 · intro b hb;simp only[Blk.at,Option.some.injEq]at hb;subst hb;exact .inr (Nat.le_refl _)
theorem Rel.drop (hr:Rel G st E a) (id:Nat):Rel G (st.setH id .none) E a:=by
 refine⟨hr.size,hr.defers,hr.once,hr.le0,hr.ver,hr.below,hr.Slt,hr.S0,hr.Snew,hr.slots,fun j=>?_,fun j j' b hne=>?_⟩
 · by_cases hj:j=id
   · subst hj;simp only[St.setH,upd,if_true];trivial
   · simp only[St.setH,upd,hj,if_false];exact hr.blocks j
 · simp only[St.setH,upd]
   by_cases hj:j=id
   · rw[if_pos hj];intro h;cases h
   · rw[if_neg hj]
     by_cases hj':j'=id
     · rw[if_pos hj'];intro _ h;cases h
     · rw[if_neg hj'];exact hr.apart j j' b hne
theorem AWp.rangeFunc {g:Operand} {ps:Array Tmp} {assign body:Code} {Q:Exit→St→Prop} {f:FuncId} {first captured:List AV} (R sh:Nat) {fn:Func} {c:Code} {n:Nat} (hrnd:G.rnd=none) (hg:st.ev g=.fn (.func f) first captured)
 (hf:G.P.funcs[f]? = some fn) (hb:fn.body=some c) (hname:(fn.name == "runtime.NumGoroutine")=false) (hnt:fn.ntmps=n) (hres:fn.results.toList=[]) (hn:(first++(AV.junk::captured)).length≤n)
 (h:∀ l r e0,LoopOf G st ps assign body R (st.ver R+1) l r ⟨G.P,G.w0,G.S0,n,none,fun d=>d+sh,e0⟩ →
  AWp ⟨G.P,G.w0,G.S0,n,none,fun d=>d+sh,e0⟩ c (zao G st R (st.ver R+1) r Q) ⟨argAt (first++(.v (.func (.yield l) #[] #[])::captured)),upd st.ver R (st.ver R+1),upd st.h R (recB r .ready none)⟩) :
 AWp G (.rangeFunc g ps assign body) Q st:=by
 intro E a hr
 have hF:G.F=Fence.wide:=by unfold Ctx.F;rw[hrnd];rfl
 refine wpIn_rangeFunc fun fid _=>?_
 let rec0:Loop:={ state:=.ready,pending:=none,fn:=fid,tmps:=a.tmps,params:=ps,assign:=assign,body:=body,defers:=E.w.heap.size }
 let d0:Deferred:={ target:=.collected E.w.heap.size,args:=#[] }
 have hr1:=hr.frozen (.deferred (some []))
 obtain⟨E2,hw2,hS2,hr2,hl2,hle2⟩:=hr1.objOwn (.loop rec0) R
 have hw2':E2.w=(E.w.alloc (.deferred (some []))).alloc (.loop rec0):=hw2
 have hEle:E.Le E2:=(E.le_frozen hr.Slt _).trans hle2
 have hl:(E2.own R).blk=E.w.heap.size+1:=by rw[hl2];show (E.w.alloc (.deferred (some []))).heap.size=_;simp
 have hmark:E2.w.heap[E.w.heap.size]? = some (.deferred (some [])):=by
  rw[hw2',znk _ _ _ (by simp),heap_alloc_new]
 have hr2':Rel G { st with ver:=upd st.ver R (st.ver R+1),h:=upd st.h R (recB rec0 .ready none) } E2 { a with defers:=[d0]++a.defers }:=by
  refine⟨hr2.size,fun d hd=>?_,?_,hr2.le0,hr2.ver,hr2.below,hr2.Slt,hr2.S0,hr2.Snew,hr2.slots,hr2.blocks,hr2.apart⟩
  · rcases List.mem_append.1 hd with hd|hd
    · simp only[List.mem_singleton]at hd
      subst hd
      exact⟨E.w.heap.size,rfl,by rw[hS2];exact .inr rfl,hr.below.size,hmark,fun E0 he hs=>absurd (hr.Slt _ ((hr.le0 E0 he).S _ hs)) (by simp)⟩
    · exact hr2.defers d hd
  · rw[List.singleton_append,List.pairwise_cons]
    refine⟨fun d hd he=>?_,hr.once⟩
    obtain⟨r',h1,h2,_⟩:=hr.defers d hd
    rw[h1]at he
    have:E.w.heap.size=r':=by simpa [d0] using he
    exact absurd (hr.Slt _ h2) (by omega)
 have hvg:=hr.ev g
 rw[hg]at hvg
 generalize hge:a.eval g=fv at hvg
 cases hvg with
 | fn _ _ _ us vs h1 h2 h3 h4 =>
  refine⟨E.w.heap.size+1,[d0],E2.w,⟨.fn (.func f) vs,us++#[.func (.yield (E.w.heap.size+1)) #[] #[]]⟩,E2.w,f,us++#[.func (.yield (E.w.heap.size+1)) #[] #[]]++vs,E2.w,?_,?_,fun _ _=>trivial,?_,fun h=>(by cases h),?_⟩
  · rw[hw2']
    have:G.F.round=none:=hrnd
    rw[this]
    exact run_enterLoop_outer fid a.tmps ps assign body
  · have hc:∀ x,a.eval (.const x)=x:=fun _=>rfl
    simp[resolve,rangeCall,hge,Deferred.ofValue,hc]
  · have hname':¬ fn.name = "runtime.NumGoroutine" := by simpa using hname
    simp[invoke,callFunc,hf,hname',hb]
  · rw[hF]
    refine zf1 (ids:=fun d=>d+sh) (R:=_) (QI:=fun s=>s.ver R=st.ver R+1∧((s.h R=recB rec0 .ready none∧Q .normal (st.mem (s.setH R .none)))∨(∃ c,s.h R=recB rec0 .done (some c)∧AWp G c Q (st.mem (s.setH R .none)))))
     hr2' hf hb hnt (args:=first++(.v (.func (.yield (E.w.heap.size+1)) #[] #[])::captured)) (by simpa using hn) (by simp[h1,h2];omega) (fun i p hp=>?_) (AWp.mono (h (E.w.heap.size+1) rec0 (some E2) ?_) ?_) ?_
    · rw[List.getElem?_append]at hp
      simp only[Array.getD_eq_getD_getElem?,Array.getElem?_append,Array.size_append,List.size_toArray,List.length_cons,List.length_nil]
      by_cases hi1:i < first.length
      · rw[if_pos hi1]at hp
        rw[if_pos (by omega),if_pos (by omega)]
        have:=(h3 i p hp).mono hEle
        simpa [Array.getD_eq_getD_getElem?] using this
      · rw[if_neg hi1]at hp
        cases hk:i - first.length with
        | zero =>
         rw[hk]at hp
         simp only[List.getElem?_cons_zero,Option.some.injEq]at hp
         subst hp
         rw[if_pos (by omega),if_neg (by omega),show i - us.size=0 from by omega]
         exact .v _
        | succ k =>
         rw[hk]at hp
         simp only[List.getElem?_cons_succ]at hp
         rw[if_neg (by omega),show i - (us.size+(0+1))=k from by omega]
         have:=(h4 k p hp).mono hEle
         simpa [Array.getD_eq_getD_getElem?] using this
    · exact⟨rfl,rfl,rfl,rfl,⟨E2,a,rfl,rfl,hr.size,fun j=>(hr.slots j).mono hEle,by rw[hr2.ver];simp[upd],hl⟩,rfl,rfl,rfl⟩
    · intro e s hq
      cases e with
      | normal=>exact⟨.inl rfl,hq⟩
      | ret=>exact⟨.inr rfl,hq⟩
      | _=>exact hq.elim
    · rintro s E' a' hr' ⟨hv,hq⟩
      have hle:E2.Le E':=hr'.le0 E2 rfl
      have hown:(E'.own R).blk=E.w.heap.size+1:=by rw[hle.own R (by rw[hr'.ver,hv,hr2.ver];simp[upd]),hl]
      obtain⟨x,hx,_⟩:=yhl hr' fn (.tup []) (by rw[hres];rfl)
      refine⟨x,hx,?_⟩
      have fin:∀ (ls:LoopState) (j:Option Code),ls≠.busy→s.h R=recB rec0 ls j→∃ w4,(Instr.endLoop (E.w.heap.size+1)).run G.P E'.w=.ok j w4∧Rel G (st.mem (s.setH R .none)) { E' with w:=w4 } { a with defers:=[d0]++a.defers }:=by
       intro ls j hls hR
       have hb':=hr'.blocks R
       rw[hR]at hb'
       have hrec:=hb'.1
       rw[hown]at hrec
       refine⟨_,run_endLoop hrec hls,?_⟩
       have h5:=hr'.objSet hR (.loop { rec0 with state:=.exhausted,pending:=j })
       rw[hown]at h5
       have h6:=h5.drop R
       have h7:=hr2'.back h6 rfl rfl rfl
       have he:(s.setH R (.obj (.loop { rec0 with state:=.exhausted,pending:=j }))).setH R .none=s.setH R .none:=by
        simp only[St.setH];congr 1;funext i;by_cases h:i=R<;>simp[upd,h]
       rw[he]at h7
       exact h7
      rcases hq with ⟨hR,hk⟩|⟨cj,hR,hk⟩
      · obtain⟨w4,h5,h6⟩:=fin .ready none (by simp) hR
        exact⟨none,w4,h5,_,_,rfl,h6,hk⟩
      · obtain⟨w4,h5,h6⟩:=fin .done (some cj) (by simp) hR
        refine⟨some cj,w4,h5,?_⟩
        have:=hk _ _ h6
        rw[hF]at this
        exact this
theorem AWp.ownNilBox (b id e sz:Nat) (hb:st.h b=.box [.v (.slice none 0 0)]) (hne:b≠id) {c:Code} {Q:Exit→St→Prop} (h:AWp G c Q ((st.setArr id e sz []).setH b (.box [.ref id (st.ver id+1)]))):AWp G c Q st:=fun E a hr=>by
 let o:Own:=⟨.slice none 0 0,0,sz⟩
 let E':Env:={ ver:=upd E.ver id (st.ver id+1),own:=upd E.own id o,S:=E.S,w:=E.w }
 have hve:E.ver id=st.ver id:=by rw[hr.ver]
 have hr':Rel G (st.setArr id e sz []) E' a:=by
  refine hr.own id (.arr e sz []) o (st.ver id+1) rfl (by omega) rfl (fun h=>by omega) rfl hr.below (Nat.le_refl _) (fun b hb _=>rfl) ?_ ?_
  · exact⟨rfl,[],⟨by simp,.inl ⟨rfl,rfl⟩⟩,by simp,⟨rfl,by simp⟩,fun b hb=>by simp[o,Value.ownBlock]at hb⟩
  · intro b hb;simp[Blk.at,o,Value.ownBlock]at hb
 have hbb:(st.setArr id e sz []).h b=.box [.v (.slice none 0 0)]:=by simp[St.setArr,upd,hne,hb]
 have hr2:Rel G ((st.setArr id e sz []).setH b (.box [.ref id (st.ver id+1)])) E' a:=by
  refine⟨hr'.size,hr'.defers,hr'.once,hr'.le0,hr'.ver,hr'.below,hr'.Slt,hr'.S0,hr'.Snew,hr'.slots,fun j=>?_,fun j j' b' hne'=>?_⟩
  · by_cases hj:j=b
    · subst hj
      have h0:=hr'.blocks j
      rw[hbb]at h0
      obtain⟨us,t,h1,h2,h3,h4⟩:=h0
      simp only[St.setH,upd,if_true]
      refine⟨us,t,h1,h2,h3,h4.1,fun i x u hx hu=>?_⟩
      cases i with
      | zero =>
       simp at hx
       subst hx
       have hv:=h4.2 0 _ u rfl hu
       rw[hv.v_inv]
       exact .ref _ _ _ (by simp[E',upd]) fun _=>by simp[E',upd,o]
      | succ i=>simp at hx
    · simp only[St.setH,upd,hj,if_false];exact hr'.blocks j
  · have hat:∀ j,((st.setArr id e sz []).setH b (.box [.ref id (st.ver id+1)])).h j=(st.setArr id e sz []).h j∨j=b:=fun j=>by
     by_cases hj:j=b
     · exact .inr hj
     · exact .inl (by simp[St.setH,upd,hj])
    have heq:∀ j,(((st.setArr id e sz []).setH b (.box [.ref id (st.ver id+1)])).h j).at (E'.own j)=((st.setArr id e sz []).h j).at (E'.own j):=fun j=>by
     rcases hat j with h|h
     · rw[h]
     · subst h;rw[hbb];simp[St.setH,upd,Blk.at]
    rw[heq,heq];exact hr'.apart j j' b' hne'
 exact h E' a hr2
theorem AWp.nilLst (d sz:Nat) {c:Code} {Q:Exit→St→Prop} (hd:st.σ d=.v (.slice none 0 0)) (h:AWp G c Q (st.put (some d) (.lst sz []))):AWp G c Q st:=fun E a hr =>
 h E a (hr.weaken fun x hx=>by rw[hd]at hx;rw[hx.v_inv];exact .lstNil _)
end
end Go.Abs
