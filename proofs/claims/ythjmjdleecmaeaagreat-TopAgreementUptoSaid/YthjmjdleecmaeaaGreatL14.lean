/- Several texts of the proof in one: Fk, Fl, Fv, Fr. No condition. -/
import Derived.ProofKit
import Derived.Test.YthjmjdleecmaeaaGreatL13
set_option linter.unusedSimpArgs false
set_option linter.unusedVariables false
set_option maxHeartbeats 4000000
set_option maxRecDepth 8000
namespace Go.Abs
open Go Go.RowKit
def zb8 (w:World):Nat→Prop:=fun b=>b < w.heap.size
def Opens (P:Program) (t:TypeId) {α:Type} (cells:α→List AV) (ok:α→Prop):Prop :=
 ∀ (H:Type) (enc:TypeId×Value→H) (w:World) (fuel:Nat) (cs:List Value) (d:DataW H) (ps:List MemPlace),
  DataW.trod enc P w 0 (fun _=>true) true fuel t cs=some (d,ps)→∃ x,ok x∧VRs (env0 (zb8 w) w) (cells x) cs
theorem yqa {E:Env} {p:AV} {x:Value} (h:VR E p x):VRs E [p] [x]:=⟨rfl,fun i a u ha hu=>by
 cases i with
 | zero=>simp at ha hu;subst ha;subst hu;exact h
 | succ i=>simp at ha⟩
theorem yp9 {E:Env} {aas bs:List AV} {us vs:List Value} (h:VRs E aas us) (k:VRs E bs vs):VRs E (aas++bs) (us++vs):=by
 refine⟨by simp[h.1,k.1],fun i a u ha hu=>?_⟩
 by_cases hi:i < aas.length
 · rw[List.getElem?_append_left hi]at ha
   rw[List.getElem?_append_left (by rw[← h.1];exact hi)]at hu
   exact h.2 i a u ha hu
 · rw[List.getElem?_append_right (by omega)]at ha
   rw[List.getElem?_append_right (by rw[← h.1];omega),← h.1]at hu
   exact k.2 _ a u ha hu
section
variable {P:Program} {t:TypeId}
theorem zux {k:IntKind} (hu:P.underlying t=some (.int k)):Opens P t (fun n:Int=>[.v (.int k n)]) (fun n=>k.min≤n∧n≤k.max):=by
 intro H enc w fuel cs d ps h
 cases fuel with
 | zero=>simp[DataW.trod]at h
 | succ fuel =>
  rcases cs with _|⟨c,_|⟨c2,cs⟩⟩
  · simp[DataW.trod,hu]at h
  · cases c<;>simp[DataW.trod,hu]at h
    rename_i k' n
    obtain⟨⟨rfl,hw⟩,_,_⟩:=h
    exact⟨n,by simpa [Lit.wf] using hw,yqa (.v _)⟩
  · simp[DataW.trod,hu]at h
theorem zuw (hu:P.underlying t=some .bool):Opens P t (fun n:Bool=>[.v (.bool n)]) (fun _=>True):=by
 intro H enc w fuel cs d ps h
 cases fuel with
 | zero=>simp[DataW.trod]at h
 | succ fuel =>
  rcases cs with _|⟨c,_|⟨c2,cs⟩⟩
  · simp[DataW.trod,hu]at h
  · cases c<;>simp[DataW.trod,hu]at h
    rename_i n
    exact⟨n,trivial,yqa (.v _)⟩
  · simp[DataW.trod,hu]at h
theorem zq3 {α β:Type} {f:α→Option β}:∀ (l:List α) (r:List β),l.mapM f=some r→l.length=r.length∧∀ (i:Nat) a,l[i]? = some a→∃ b,r[i]? = some b∧f a=some b
 | [],r,h=>by simp at h;subst h;exact⟨rfl,by simp⟩
 | a::l,r,h=>by
  simp only[List.mapM_cons,Option.bind_eq_bind,Option.bind_eq_some_iff,Option.pure_def,Option.some.injEq]at h
  obtain⟨b,hb,r',hr',rfl⟩:=h
  obtain⟨h1,h2⟩:=zq3 l r' hr'
  refine⟨by simp[h1],fun i x hx=>?_⟩
  cases i with
  | zero=>simp at hx;subst hx;exact⟨b,rfl,hb⟩
  | succ i=>obtain⟨y,hy,hf⟩:=h2 i x (by simpa using hx);exact⟨y,by simpa using hy,hf⟩
end
end Go.Abs
namespace Go.Abs
open Go Go.RowKit Go.ChangeShapes
theorem yo5 {H:Type} {en:TypeId×Value→H} {P:Program} {w:World} {base:Nat} {spare:Nat→Bool} {held:Bool}:∀ (ts:List TypeId) (vs:List Value) (ds:List (DataW H)) (ps:List MemPlace),DataW.TrodAll en P w base spare held ts vs ds ps→ts.length=vs.length∧ts.length=ds.length
 | [],[],[],_,_=>⟨rfl,rfl⟩
 | t::ts,v::vs,d::ds,_,⟨_,q,_,h,_⟩=>by have:=yo5 ts vs ds q h;exact⟨by simp[this.1],by simp[this.2]⟩
 | [],_::_,_,_,h=>by rename_i x _;cases x<;>exact h.elim
 | [],[],_::_,_,h=>h.elim
 | _::_,[],_,_,h=>by rename_i x _;cases x<;>exact h.elim
 | _::_,_::_,[],_,h=>h.elim
theorem yo6 {H:Type} {en:TypeId×Value→H} {P:Program} (hl:laidOutB P=true) {W W':World} (hb:Below W.heap.size W W'):∀ (ts:List TypeId) (vs:List Value) (ds:List (DataW H)) (ps:List MemPlace),(∀ t∈ts,P.readableRec t=true∧t < P.types.size) →
 DataW.TrodAll en P W 0 (fun _=>true) true ts vs ds ps→(∀ x∈ps,x.block < W.heap.size)→DataW.TrodAll en P W' 0 (fun b=>decide (b < W.heap.size)) true ts vs ds ps
 | [],[],[],_,_,h,_=>h
 | t::ts,v::vs,d::ds,_,ht,⟨p,q,h1,h2,he⟩,hlt=>by
  subst he
  exact⟨p,q,Below.trod hl (ht t (by simp)).1 (ht t (by simp)).2 h1 hb fun x hx=>hlt x (by simp[hx]),yo6 hl hb ts vs ds q (fun t' ht'=>ht t' (by simp[ht'])) h2 fun x hx=>hlt x (by simp[hx]),rfl⟩
 | [],_::_,_,_,_,h,_=>by rename_i x _ _ _;cases x<;>exact h.elim
 | [],[],_::_,_,_,h,_=>h.elim
 | _::_,[],_,_,_,h,_=>by rename_i x _ _ _;cases x<;>exact h.elim
 | _::_,_::_,[],_,_,h,_=>h.elim
end Go.Abs
namespace Go.Abs
open Go Go.RowKit
section
variable {P:Program} {b:Frame} {a:Act} {k:List Item} {cs:List Frame} {w:World}
theorem ykr {c:Code}:step P (lone (b.atR a (.code (.scope c)::k)) cs w)=.next (lone (b.atR a (.code c::.inScope c::k)) cs w) :=
 step_lone_go (by simp[stepG,stepG.exec,Frame.atR])
theorem ykq {c:Code}:step P (lone (b.atR a (.inScope c::k)) cs w)=.next (lone (b.atR a k) cs w) :=
 step_lone_go (by simp[stepG,stepG.exec,Frame.atR])
end
def noGotoE (Q:Exit→Act→World→Prop):Exit→Act→World→Prop
 | .goto _,_,_=>False
 | e,a,w=>Q e a w
theorem yri {F:Fence} {n:Nat} {P:Program} {Q:Exit→Act→World→Prop} {a:Act} {w:World} {c:Code} (h:c.wpIn F n P (noGotoE Q) a w):(Code.scope c).wpIn F n P Q a w:=by
 intro b k cs hro hb hr
 have h0:(lone (b.atR a (.code (.scope c)::k)) cs w).fenced P F:=fenced_calm hb hr rfl
 obtain⟨e,a₁,w₁,hq,harr⟩:=h b (.inScope c::k) cs hro hb hr
 cases e with
 | normal=>exact⟨.normal,a₁,w₁,hq,.head h0 ykr (StepsIn.trans harr (.one (fenced_calm hb hr rfl) ykq))⟩
 | exit id =>
  have hx:exitTo id (.inScope c::k)=exitTo id k:=by simp[exitTo]
  exact⟨.exit id,a₁,w₁,hq,fun k' hk=>.head h0 ykr (harr.1 k' (by rw[hx];exact hk)),
   fun hr' hk=>let ⟨k₁,h1,h2⟩:=harr.2 hr' (by rw[hx];exact hk);⟨k₁,h1,.head h0 ykr h2⟩⟩
 | goto l=>exact hq.elim
 | ret=>exact⟨_,a₁,w₁,hq,.of_steps (.one h0 ykr) harr⟩
 | panic ch=>exact⟨_,a₁,w₁,hq,.of_steps (.one h0 ykr) harr⟩
 | outgrown=>exact⟨_,a₁,w₁,hq,.of_steps (.one h0 ykr) harr⟩
def zso (Q:Exit→St→Prop):Exit→St→Prop
 | .goto _,_=>False
 | e,s=>Q e s
section
variable {G:Ctx} {Q:Exit→St→Prop} {st:St} {own:List Nat}
theorem AWp.scope {c:Code} (h:AWp G c (zso Q) st):AWp G (.scope c) Q st:=fun E a hr =>
 yri (wpIn_mono (h E a hr) fun e a' w' ⟨st',E',h1,h2,h3⟩=>by
  cases e with
  | goto l=>exact h3.elim
  | _=>exact⟨st',E',h1,h2,h3⟩)
theorem AWp.scope_vc (own:List Nat) {c:Code} (h:ypy G own c (zso Q) st):AWp G (.scope c) Q st:=.scope (.of_vc own h)
@[congr] theorem noGotoA_congr {e:Exit} {st st':St} (h:st=st'):zso Q e st=zso Q e st':=by rw[h]
theorem w_scope (c:Code):ypy G own (.scope c) Q st=AWp G (.scope c) Q st:=nrfl _
theorem yqr:zso Q .normal st=Q .normal st:=nrfl _
theorem w_ng_ret:zso Q .ret st=Q .ret st:=nrfl _
end
attribute [go_sem] w_scope yqr w_ng_ret
end Go.Abs
namespace Go.Abs
open Go Go.RowKit
structure PC (P:Program) (f:FuncId) (args:List AV) (x:Value):Prop where
 fn:∃ fn,P.funcs[f]? = some fn∧fn.body.isSome=true∧(fn.name == "runtime.NumGoroutine")=false
 pargs:∀ p∈args,Pure p
 run:∀ (S:Nat→Prop) (w:World) (vs:Array Value),(∀ b,S b→b < w.heap.size)→vs.size=args.length→(∀ (i:Nat) p,args[i]? = some p→VR (env0 S w) p (vs.getD i undef)) →
  Calls P f vs w fun e w'=>e=.panicked [{ v:=x,recovered:=false }]∧Below w.heap.size w w'
def PostP (x:Value):Exit→St→Prop
 | .panic chain,_=>chain=[{ v:=x,recovered:=false }]
 | _,_=>False
theorem zqe {G:Ctx} {st:St} {fn:Func} {chain:List PanicEntry} {R:Ending→World→Prop}:∀ (ds:List Deferred) {E:Env} {a:Act},a.defers=ds→Rel G st E a →
 (∀ E',Rel G st E' { a with defers:=[] }→R (.panicked chain) E'.w)→LeavesInM Fence.wide 0 G.P fn a.tmps R ds (.panicking chain) E.w
 | [],E,a,hd,hr,h=>by
  obtain⟨tm,df⟩:=a
  simp only at hd
  subst hd
  exact h E hr
 | d::ds,E,a,hd,hr,h=>by
  obtain⟨r,h1,h2,h3⟩:=hr.shutMark hd
  refine⟨by simp,.inl ⟨r,E.w.putObj r (.deferred none),by rw[h1],run_takeDeferred h2,?_⟩⟩
  exact zqe ds (a:={ a with defers:=ds }) rfl h3 h
theorem PC.of_body {P:Program} {f:FuncId} {fn:Func} {c:Code} {args:List AV} {x:Value} {n:Nat} (hf:P.funcs[f]? = some fn) (hb:fn.body=some c) (hname:(fn.name == "runtime.NumGoroutine")=false) (hnt:fn.ntmps=n) (hn:args.length≤n)
 (hargs:∀ p∈args,Pure p) (h:∀ (w:World) (S:Nat→Prop),AWp ⟨P,w,S,n,none,fun d=>d,none⟩ c (PostP x) (ykc args)):PC P f args x:=by
 subst hnt
 refine⟨⟨fn,hf,by rw[hb];rfl,hname⟩,hargs,fun S w vs hS hl hv=>?_⟩
 let a:Act:={ tmps:=vs++Array.replicate (fn.ntmps - vs.size) undef,defers:=[] }
 have hrel:Rel ⟨P,w,S,fn.ntmps,none,fun d=>d,none⟩ (ykc args) (env0 S w) a:=by
  refine⟨by simp[a];omega,fun d hd=>(by simp[a]at hd),List.Pairwise.nil,fun E0 h=>(by cases h),rfl,Below.refl _ _,hS,fun _ h=>h,fun _ h=>.inl h,fun j=>?_,fun _=>trivial,fun id id' b _ hb=>by cases hb⟩
  simp only[ykc,zd4]
  by_cases hj:j < args.length
  · have e:a.tmps.getD j undef=vs.getD j undef:=by
     have hj':j < vs.size:=by omega
     simp[a,Array.getD_eq_getD_getElem?,Array.getElem?_append,hj']
    rw[e]
    have:=hv j args[j] (List.getElem?_eq_getElem hj)
    simpa [List.getD,hj] using this
  · have:args.getD j .junk=.junk:=by simp[List.getD,List.getElem?_eq_none (Nat.le_of_not_lt hj)]
    rw[this];exact .junk _
 rw[← callsIn_wide (n:=0)]
 refine callsIn_of_wp_marks hf hb trivial (wpIn_mono (h w S _ a hrel) ?_)
 rintro e a' w' ⟨st',E',rfl,h2,h3⟩
 cases e with
 | panic ch =>
  have h3:ch=[{ v:=x,recovered:=false }]:=h3
  subst h3
  exact zqe _ rfl h2 fun E3 h3=>⟨rfl,h3.below⟩
 | normal=>exact h3.elim
 | ret=>exact h3.elim
 | exit id=>exact h3.elim
 | goto l=>exact h3.elim
 | outgrown=>exact h3.elim
def Pins (p:AV) (x:Value):Prop:=∀ E y,VR E p y→y=x
theorem pins_v (x:Value):Pins (.v x) x:=fun E y h=>by cases h;rfl
theorem zv3 {t:TypeId} {p:AV} {x:Value} (h:Pins p x):Pins (.iface t p) (.iface t x):=fun E y hy=>by
 cases hy with
 | iface _ _ v hv=>rw[h E v hv]
theorem zv1:Pins (.agg []) (.agg #[]):=fun E y hy=>by
 cases hy with
 | agg _ us hl _=>rw[Array.eq_empty_of_size_eq_zero (show us.size=0 from hl.symm)]
theorem zv2 {p:AV} {x:Value} (h:Pins p x):Pins (.agg [p]) (.agg #[x]):=fun E y hy=>by
 cases hy with
 | agg _ us hl hv =>
  have h1:us.size=1:=hl.symm
  have h2:=h E _ (hv 0 p rfl)
  have:us=#[us[0]]:=by
   apply Array.ext
   · simp[h1]
   · intro i hi hj
     have:i=0:=by omega
     subst this;rfl
  rw[this]
  simp[Array.getD_eq_getD_getElem?,h1]at h2
  rw[h2]
def panOp (G:Ctx) (x:Value) (o:Oper) (st:St):Prop :=
 match o.op with
 | .panic y=>(∃ t b,x=.iface t b)∧Pins (st.ev y) x
 | .call c=>match c.callee with
  | .value f=>onFn (st.ev f) fun g first captured=>PC G.P g (first++(c.args.toList.map st.ev++captured)) x
  | _=>False
 | _=>False
section
variable {G:Ctx} {st:St} {E:Env} {a:Act}
theorem zvv {x:Value} {o:Oper} (hr:Rel G st E a) (h:panOp G x o st) {K:Act→World→Prop} {Q:Exit→Act→World→Prop} (hq:∀ E',Rel G st E' a→Q (.panic [{ v:=x,recovered:=false }]) a E'.w) :
 o.wpIn G.F 0 G.P a E.w K Q:=by
 unfold panOp at h
 split at h
 · rename_i y ho
   obtain⟨⟨t,b,rfl⟩,hp⟩:=h
   have hy:=hp E _ (hr.ev y)
   refine Oper.wpIn_of_wp (fun c hc=>by rw[ho]at hc;cases hc) ?_
   unfold Oper.wp
   have hrun:(execOp a.eval o).run G.P E.w=.halt (.panic (.iface t b)) E.w:=by
    simp[execOp,ho,hy,Instr.panic,goPanic]
   rw[hrun,Oper.upon_panic]
   exact hq E hr
 · rename_i c ho
   split at h
   case h_2=>cases h
   rename_i f hcal
   obtain⟨g,first,captured,hf,h⟩:=h
   obtain⟨fn,hfn,hbody,hname⟩:=h.fn
   have hvf:=hr.ev f
   rw[hf]at hvf
   refine Oper.wpIn_of_wp (fun c hc=>by rw[ho]at hc;cases hc) ?_
   generalize hfe:a.eval f=fv at hvf
   cases hvf with
   | fn _ _ _ us vs h1 h2 h3 h4 =>
    have hrun:(execOp a.eval o).run G.P E.w=.ok (.enter g (us++c.args.map a.eval++vs)) E.w:=by
     have hname':¬ fn.name = "runtime.NumGoroutine" := by simpa using hname
     simp[execOp,ho,resolve,hcal,hfe,Deferred.ofValue,invoke,callFunc,hfn,hname']
     cases hb:fn.body with
     | none=>simp[hb]at hbody
     | some _=>simp
    unfold Oper.wp
    rw[hrun,Oper.upon_enter]
    refine (h.run E.S E.w (us++c.args.map a.eval++vs) hr.Slt (by simp[h1,h2,Nat.add_assoc]) fun i p hp=>(h.pargs p (List.mem_of_getElem? hp)).to0 ?_).mono ?_
    · simp only[List.getElem?_append,List.length_map,Array.length_toList]at hp
      simp only[Array.getD_eq_getD_getElem?,Array.getElem?_append,Array.size_append,Array.size_map]
      by_cases hi1:i < first.length
      · rw[if_pos hi1]at hp
        rw[if_pos (by omega),if_pos (by omega)]
        have:=h3 i p hp
        simpa [Array.getD_eq_getD_getElem?] using this
      · rw[if_neg hi1]at hp
        by_cases hi2:i - first.length < c.args.size
        · rw[if_pos hi2]at hp
          rw[if_pos (by omega),if_neg (by omega)]
          simp only[List.getElem?_map,Option.map_eq_some_iff,Array.getElem?_toList]at hp
          obtain⟨x,hx,rfl⟩:=hp
          have:(Array.map a.eval c.args)[i - us.size]? = some (a.eval x):=by rw[← h1];simp[hx]
          rw[this];exact hr.ev x
        · rw[if_neg hi2]at hp
          rw[if_neg (by omega)]
          have:=h4 _ p hp
          rw[h1]at this
          simpa [Array.getD_eq_getD_getElem?,Nat.sub_sub] using this
    · rintro e w' ⟨rfl,hb⟩
      obtain⟨hrel,_⟩:=hr.afterCall (S':=E.S) hb (fun _ h=>h) (fun _ h=>.inl h) fun b h=>Nat.lt_of_lt_of_le (hr.Slt b h) hb.size
      exact hq _ hrel
 · cases h
def wantP (ops:Array Oper) (o:Oper) (st:St):Prop :=
 match o.guard with
 | none=>True
 | some (j,want)=>match zm7 ops j with
  | some t=>zm8 (st.σ t) want=some true
  | none=>False
theorem yq7 {ops:Array Oper} {o:Oper} (hr:Rel G st E a) (h:wantP ops o st):Region.wanted o (yielded ops a.tmps)=true:=by
 unfold wantP at h
 unfold Region.wanted
 split at h
 · rename_i hg;rw[hg]
 · rename_i j want hg
   rw[hg]
   split at h
   · rename_i t ht
     simp only[zm9 hr ht h]
   · cases h
theorem yp3 (own:List Nat) {ops:Array Oper} {Q:St→Prop} {Q':Exit→Act→World→Prop} {tail:List Oper}:∀ (l:List Oper) (st:St) (E:Env) (a:Act),Rel G st E a→vcOps G own ops Q l st→(∀ st' E' a',Rel G st' E' a'→Q st'→wpListIn G.F 0 G.P ops Q' tail a' E'.w) →
 wpListIn G.F 0 G.P ops Q' (l++tail) a E.w
 | [],st,E,a,hr,h,hq=>hq st E a hr h
 | o::rest,st,E,a,hr,h,hq=>by
  obtain⟨hd,h⟩:=h
  have ih:=yp3 own (ops:=ops) (Q:=Q) (Q':=Q') (tail:=tail) rest
  have go:vcOp G own (vcOps G own ops Q rest) o st→o.wpIn G.F 0 G.P a E.w (wpListIn G.F 0 G.P ops Q' (rest++tail)) Q':=fun hv =>
   Oper.wpIn_mono (fun a' w' ⟨st',E',hw,hrel,hk⟩=>by subst hw;exact ih st' E' a' hrel hk hq) (yp0 own hd hr hv)
  show wpListIn G.F 0 G.P ops Q' (o::(rest++tail)) a E.w
  unfold wpListIn
  unfold Region.wanted
  split at h
  · rename_i hg
    simp only[hg,if_true]
    exact go h
  · rename_i j want hg
    simp only[hg]
    split at h
    · rename_i t ht
      · obtain⟨b,hb,h⟩:=h
        rw[zm9 hr ht hb]
        cases b with
        | true =>
         simp only[if_true]at h ⊢
         exact go h
        | false =>
         simp only[Bool.false_eq_true,if_false]at h ⊢
         exact⟨fun _ _=>trivial,ih _ E _ (hr.put (.v undef) (fun d he=>by rw[he]at hd;exact hd)) h hq⟩
    · cases h
theorem AWp.regionPan {id:Nat} {ops:Array Oper} {Q:Exit→St→Prop} (own:List Nat) (k:Nat) (x:Value) {o:Oper} (ho:ops.toList[k]? = some o)
 (h:vcOps G own ops (fun s=>wantP ops o s∧panOp G x o s∧Q (.panic [{ v:=x,recovered:=false }]) s) (ops.toList.take k) st):AWp G (.region id ops false) Q st:=fun E a hr=>by
 obtain⟨hk,hko⟩:=List.getElem?_eq_some_iff.1 ho
 refine wpIn_region_list ?_
 have hsplit:ops.toList=ops.toList.take k++o::ops.toList.drop (k+1):=by
  rw[← hko,List.getElem_cons_drop,List.take_append_drop]
 rw[hsplit]
 refine yp3 own _ st E a hr h fun st' E' a' hr' hq=>?_
 obtain⟨h1,h2,h3⟩:=hq
 unfold wpListIn
 rw[yq7 hr' h1]
 simp only[if_true]
 exact zvv hr' h2 fun E2 hr2=>⟨st',E2,rfl,hr2,h3⟩
theorem AWp.drawPan {id n:Nat} {l:List Oper} {Q:Exit→St→Prop} {st:St} (own:List Nat) (k:Nat) (x:Value) {o:Oper} (hm:G.P.follows .mixedOrders=true) (hB:Region.lexTailB .any l.toArray n=true) (ho:(l.drop n)[k]? = some o)
 (h:ypw G l.toArray (fun st'=>vcOps G own l.toArray (fun s=>wantP l.toArray o s∧panOp G x o s∧Q (.panic [{ v:=x,recovered:=false }]) s) ((l.drop n).take k) st') (l.take n) st):AWp G (.region id l.toArray true) Q st:=fun E a hr=>by
 obtain⟨hk,hko⟩:=List.getElem?_eq_some_iff.1 ho
 have hsplit:l.drop n=(l.drop n).take k++o::(l.drop n).drop (k+1):=by
  conv=>lhs;rw[← List.take_append_drop k (l.drop n),← List.getElem_cons_drop hk,hko]
 simp only[Region.lexTailB,Bool.and_eq_true,decide_eq_true_eq]at hB
 obtain⟨⟨⟨⟨hsel,hn⟩,hs⟩,hc⟩,hlex⟩:=hB
 have hn':n < l.length:=by simpa using hn
 have htl:(l.take n).length=n:=by simp;omega
 have hdl:(l.drop n).length=l.toArray.size - n:=by simp
 have inv0:HeadInv .any l.toArray n (Array.replicate l.toArray.size false) :=
  ⟨by simp,fun j oj _ hl=>(by rw[getD_replicate_false]at hl;cases hl),fun t _ ht=>getD_in (by simpa using ht) (getD_replicate_false _ _)⟩
 have H:=zdh (G:=G) (md:=.any) (g:=l.toArray.size - n) hs hc hn (l.take n) 0 _ st (fun j hj=>by
  have hj':j < n:=by rw[htl]at hj;exact hj
  simp[hj']) (by simpa using htl) inv0 (by rw[htl];exact hlex) h
 refine wpIn_region_any hm ?_
 have:=yrf (G:=G) (Q':=fun e a' w'=>∃ st' E',E'.w=w'∧Rel G st' E' a'∧Q e st') (g:=l.toArray.size - n) (fun listed st' E' a' hr' hL=>by
  have:=yre (G:=G) (md:=.any) (Q':=fun e a' w'=>∃ st' E',E'.w=w'∧Rel G st' E' a'∧Q e st') (l.drop n) n listed a' E'.w (fun j=>by simp[List.getElem?_drop]) (by rw[hdl];exact hL.1)
   (show wpListIn G.F 0 G.P l.toArray (fun e a' w'=>∃ st' E',E'.w=w'∧Rel G st' E' a'∧Q e st') (l.drop n) a' E'.w from by
    have hv:=yp3 (ops:=l.toArray) (Q':=fun e a' w'=>∃ st' E',E'.w=w'∧Rel G st' E' a'∧Q e st') (tail:=o::(l.drop n).drop (k+1)) own _ st' E' a' hr' hL.2 fun st'' E'' a'' hr'' hq=>by
     obtain⟨h1,h2,h3⟩:=hq
     unfold wpListIn
     rw[yq7 hr'' h1]
     simp only[if_true]
     exact zvv hr'' h2 fun E2 hr2=>⟨st'',E2,rfl,hr2,h3⟩
    rwa [← hsplit]at hv)
  rwa [hdl]at this) _ _ _ _ _ hr.drew H
 rw[htl,show n+(l.toArray.size - n)=l.toArray.size by omega]at this
 exact this
theorem yfe (ops:Array Oper) (dst:Option Tmp) (op:Op) (ty:TypeId) (po:String) (af:Array Edge):wantP ops ⟨dst,op,ty,po,af,none⟩ st=True:=rfl
theorem yd3 (x:Value) (y:Operand) (dst:Option Tmp) (ty:TypeId) (po:String) (af:Array Edge) (gd:Option (Nat×Bool)):panOp G x ⟨dst,.panic y,ty,po,af,gd⟩ st=((∃ t b,x=.iface t b)∧Pins (st.ev y) x):=rfl
theorem yd2 (x:Value) (f:Operand) (aas:Array Operand) (tys:Array TypeId) (dst:Option Tmp) (ty:TypeId) (po:String) (af:Array Edge) (gd:Option (Nat×Bool)):panOp G x ⟨dst,.call ⟨.value f,aas,tys⟩,ty,po,af,gd⟩ st=onFn (st.ev f) fun g first captured=>PC G.P g (first++(aas.toList.map st.ev++captured)) x:=rfl
theorem q_PostP (x:Value) (ch:List PanicEntry):PostP x (.panic ch) st=(ch=[{ v:=x,recovered:=false }]):=rfl
end
theorem yaf {P:Program} {st:St} (t:TypeId) (ps:Array (Nat×Operand)) (x:Nat×Nat) (h:yns P t=none) (h2:tArr P t=some x):zfi P st t ps=if (zi6 st ps).all (fun x=>zth st x.2)=true then
 (tZero P t).bind fun z=>(fillL (fun i=>some (i * x.2,x.2)) (yps z) (zi6 st ps)).map .agg else none:=by
 simp only[zfi,h,h2]
 split
 · cases tZero P t<;>rfl
 · rfl
theorem yel {P:Program} {st:St} (v w x:ResultVar):yf7 P st [v,w,x]=(resAV P st v).bind fun a=>(resAV P st w).bind fun b=>(resAV P st x).bind fun c=>if (refs [a,b,c]).Nodup then (outAV st a).bind fun a=>(outAV st b).bind fun b=>(outAV st c).map fun c=>.tup [a,b,c] else none:=by
 simp only[yf7,List.mapM_cons,List.mapM_nil,Option.bind_eq_bind,Option.pure_def]
 cases resAV P st v with
 | none=>rfl
 | some a =>
  cases resAV P st w with
  | none=>rfl
  | some b =>
   cases resAV P st x with
   | none=>rfl
   | some c =>
    simp only[Option.bind_some,yf1]
    split
    · cases h1:outAV st a<;>cases h2:outAV st b<;>cases h3:outAV st c<;>simp[List.mapM_cons,h1,h2,h3]
    · rfl
attribute [go_sem] yel yaf yfe yd3 yd2 q_PostP
end Go.Abs
