/- Several texts of the proof in one: Fi. No condition. -/
import Derived.Test.YthjmjdleecmaeaaGreatL07
import Derived.Laws.MakeOwn
import Derived.Maps.RangeRun
import Derived.Laws.IdiomStrings
set_option linter.unusedSimpArgs false
set_option linter.unusedVariables false
set_option maxHeartbeats 4000000
set_option maxRecDepth 8000
namespace Go.Abs
open Go Go.RowKit
def St.setBox (st:St) (id:Nat) (cs:List AV):St:={ st with ver:=upd st.ver id (st.ver id+1),h:=upd st.h id (.box cs) }
section simps
variable (st:St) (d j:Nat) (r:AV) (id e sz:Nat) (xs cs:List AV)
def St.setH (st:St) (id:Nat) (b:Blk):St:={ st with h:=upd st.h id b }
end simps
def CallSem (G:Ctx) (g:FuncId) (args:List AV) (dst:Option Tmp) (K:St→Prop) (st:St):Prop :=
 (∃ fn,G.P.funcs[g]? = some fn∧fn.body.isSome=true∧(fn.name == "runtime.NumGoroutine")=false) ∧
 ∀ E a (vs:Array Value),Rel G st E a→vs.size=args.length→(∀ (i:Nat) p,args[i]? = some p→VR E p (vs.getD i undef)) →
  Calls G.P g vs E.w fun e w'=>∃ v,e=.returned v∧∃ st' E',E'.w=w'∧Rel G st' E' (a.put dst v)∧K st'
def YieldSem (G:Ctx) (l:Nat) (args:List AV) (dst:Option Tmp) (K:St→Prop) (st:St):Prop :=
 ∀ E a (vs:Array Value),Rel G st E a→vs.size=args.length→(∀ (i:Nat) p,args[i]? = some p→VR E p (vs.getD i undef)) →
  ∃ f tmps assign body,(Instr.yield l vs).run G.P E.w=.ok (.round l f tmps assign body) E.w ∧
   RoundIn G.F 0 G.P l f tmps assign body E.w fun e w'=>∃ v,e=.returned v∧∃ st' E',E'.w=w'∧Rel G st' E' (a.put dst v)∧K st'
def zsl (st:St):AV→Option (List AV)
 | .lst _ xs=>some xs
 | .ref id k=>if k=st.ver id then
  match st.h id with
  | .arr _ _ xs=>some xs
  | _=>none
  else none
 | _=>none
theorem zsm {P:Program} {st:St} {op:BinOp} {t:TypeId} {p q r:AV} (h:binAV P op t p q=some r):zsl st p=none:=by
 cases p<;>first|rfl|(simp[binAV]at h)
def bindP {α:Type} (o:Option α) (K:α→Prop):Prop:=∃ a,o=some a∧K a
theorem zex {α:Type} (a:α) (K:α→Prop):bindP (some a) K=K a:=by simp[bindP]
theorem zew {α:Type} (K:α→Prop):bindP none K=False:=by simp[bindP]
@[congr] theorem bindP_congr {α:Type} {o o':Option α} {K:α→Prop} (h:o=o'):bindP o K=bindP o' K:=by rw[h]
def ztn (p:AV) (K:Bool→Prop):Prop:=∃ b,p=.v (.bool b)∧K b
theorem zto (b:Bool) (K:Bool→Prop):ztn (.v (.bool b)) K=K b:=by simp[ztn]
@[congr] theorem onBool_congr {p p':AV} {K:Bool→Prop} (h:p=p'):ztn p K=ztn p' K:=by rw[h]
def onFn (p:AV) (K:FuncId→List AV→List AV→Prop):Prop:=∃ g first captured,p=.fn (.func g) first captured∧K g first captured
theorem onFn_v (g:FuncId) (first captured:List AV) (K:FuncId→List AV→List AV→Prop):onFn (.fn (.func g) first captured) K=K g first captured:=propext ⟨fun ⟨_,_,_,he,h⟩=>by cases he;exact h,fun h=>⟨_,_,_,rfl,h⟩⟩
@[congr] theorem onFn_congr {p p':AV} {K:FuncId→List AV→List AV→Prop} (h:p=p'):onFn p K=onFn p' K:=by rw[h]
def onFn2 (p:AV) (K:FuncId→List AV→List AV→Prop) (Y:Nat→Prop):Prop:=onFn p K∨∃ l,p=.v (.func (.yield l) #[] #[])∧Y l
theorem onFn2_v (g:FuncId) (first captured:List AV) (K:FuncId→List AV→List AV→Prop) (Y:Nat→Prop):onFn2 (.fn (.func g) first captured) K Y=K g first captured:=by
 unfold onFn2
 rw[onFn_v]
 exact propext ⟨fun h=>h.elim id fun ⟨_,he,_⟩=>(by cases he),.inl⟩
theorem ztq (l:Nat) (K:FuncId→List AV→List AV→Prop) (Y:Nat→Prop):onFn2 (.v (.func (.yield l) #[] #[])) K Y=Y l:=by
 unfold onFn2 onFn
 exact propext ⟨fun h=>h.elim (fun ⟨_,_,_,he,_⟩=>(by cases he)) (fun ⟨_,he,hy⟩=>(by cases he;exact hy)),fun h=>.inr ⟨l,rfl,h⟩⟩
@[congr] theorem onFn2_congr {p p':AV} {K:FuncId→List AV→List AV→Prop} {Y:Nat→Prop} (h:p=p'):onFn2 p K Y=onFn2 p' K Y:=by rw[h]
def onNil (o:Option (List AV)) (A:List AV→Prop) (B:Prop):Prop:=(∃ xs,o=some xs∧A xs)∨(o=none∧B)
theorem zt7 (xs:List AV) (A:List AV→Prop) (B:Prop):onNil (some xs) A B=A xs:=by simp[onNil]
theorem zt6 (A:List AV→Prop) (B:Prop):onNil none A B=B:=by simp[onNil]
@[congr] theorem onNil_congr {o o':Option (List AV)} {A:List AV→Prop} {B:Prop} (h:o=o'):onNil o A B=onNil o' A B:=by rw[h]
def zmk:AV→Option (Nat×List AV)
 | .full sz xs=>some (sz,xs)
 | _=>none
theorem zml {p:AV} {sz:Nat} {xs:List AV} (h:zmk p=some (sz,xs)):p=.full sz xs:=by
 unfold zmk at h
 split at h
 · cases h;rfl
 · cases h
def ztr (o:Option (Nat×List AV)) (A:Nat→List AV→Prop) (B:Prop):Prop:=(∃ sz xs,o=some (sz,xs)∧A sz xs)∨(o=none∧B)
theorem ztt (sz:Nat) (xs:List AV) (A:Nat→List AV→Prop) (B:Prop):ztr (some (sz,xs)) A B=A sz xs :=
 propext ⟨fun h=>h.elim (fun ⟨_,_,he,h⟩=>by cases he;exact h) (fun ⟨he,_⟩=>by cases he),fun h=>.inl ⟨_,_,rfl,h⟩⟩
theorem zts (A:Nat→List AV→Prop) (B:Prop):ztr none A B=B:=by simp[ztr]
@[congr] theorem onFull_congr {o o':Option (Nat×List AV)} {A:Nat→List AV→Prop} {B:Prop} (h:o=o'):ztr o A B=ztr o' A B:=by rw[h]
def onOsl (o:Option (Nat×Nat×Nat×List AV×Nat×Nat)) (A:Nat→Nat→Nat→List AV→Nat→Nat→Prop) (B:Prop):Prop:=(∃ id e sz xs lo hi,o=some (id,e,sz,xs,lo,hi)∧A id e sz xs lo hi)∨(o=none∧B)
theorem zua (id e sz:Nat) (xs:List AV) (lo hi:Nat) (A:Nat→Nat→Nat→List AV→Nat→Nat→Prop) (B:Prop):onOsl (some (id,e,sz,xs,lo,hi)) A B=A id e sz xs lo hi :=
 propext ⟨fun h=>h.elim (fun ⟨_,_,_,_,_,_,he,h⟩=>by cases he;exact h) (fun ⟨he,_⟩=>by cases he),fun h=>.inl ⟨_,_,_,_,_,_,rfl,h⟩⟩
theorem zt9 (A:Nat→Nat→Nat→List AV→Nat→Nat→Prop) (B:Prop):onOsl none A B=B:=by simp[onOsl]
@[congr] theorem onOsl_congr {o o':Option (Nat×Nat×Nat×List AV×Nat×Nat)} {A:Nat→Nat→Nat→List AV→Nat→Nat→Prop} {B:Prop} (h:o=o'):onOsl o A B=onOsl o' A B:=by rw[h]
def St.setIter (st:St) (id:Nat) (es:Array MapEntry) (clk:Nat) (done:List MapEntry):St:={ st with ver:=upd st.ver id (st.ver id+1),h:=upd st.h id (.iter es clk done) }
def onMapv (p:AV) (f:Array MapEntry→Nat→Prop):Prop :=
 match p with
 | .mapv es clk=>f es clk
 | _=>False
@[congr] theorem onMapv_congr {p p':AV} {f:Array MapEntry→Nat→Prop} (h:p=p'):onMapv p f=onMapv p' f:=by rw[h]
def zt5 (st:St) (p:AV) (f:Array MapEntry→Nat→St→Prop):Prop :=
 match p with
 | .mapv es clk=>f es clk st
 | .ref id k=>k=st.ver id∧match st.h id with
  | .map es clk=>f es clk (st.freeze id)
  | _=>False
 | _=>False
@[congr] theorem onMapF_congr {st st':St} {p p':AV} {f:Array MapEntry→Nat→St→Prop} (h:st=st') (hp:p=p'):zt5 st p f=zt5 st' p' f:=by rw[h,hp]
def ztw (b:Blk) (f:Array MapEntry→Nat→List MapEntry→Prop):Prop :=
 match b with
 | .iter es clk done=>f es clk done
 | _=>False
theorem ztx (es:Array MapEntry) (clk:Nat) (done:List MapEntry) (f:Array MapEntry→Nat→List MapEntry→Prop):ztw (.iter es clk done) f=f es clk done:=Eq.trans rfl rfl
@[congr] theorem onIterB_congr {b b':Blk} {f:Array MapEntry→Nat→List MapEntry→Prop} (h:b=b'):ztw b f=ztw b' f:=by rw[h]
def ztv (st:St) (p:AV) (f:Nat→Array MapEntry→Nat→List MapEntry→Prop):Prop :=
 match p with
 | .rptr id k 0 0=>k=st.ver id∧ztw (st.h id) (f id)
 | _=>False
theorem onIter_v {st:St} (i k:Nat) (f:Nat→Array MapEntry→Nat→List MapEntry→Prop) (hk:k=st.ver i):ztv st (.rptr i k 0 0) f=ztw (st.h i) (f i):=by
 simp only[ztv,hk,true_and]
@[congr] theorem onIter_congr {st st':St} {p p':AV} {f:Nat→Array MapEntry→Nat→List MapEntry→Prop} (h:st=st') (hp:p=p'):ztv st p f=ztv st' p' f:=by rw[h,hp]
def NextK (K:St→Prop) (dst:Option Tmp) (id:Nat) (es:Array MapEntry) (clk:Nat) (done:List MapEntry) (st:St):Prop :=
 ((∀ e∈es.toList,e.born∈done.map (·.born))→K (st.put dst (.tup [.v (.bool false)]))) ∧
 ∀ e∈es.toList,e.born∉done.map (·.born)→K ((st.setH id (.iter es clk (done++[e]))).put dst (.tup [.v (.bool true),.v e.key,.v e.val]))
@[congr] theorem NextK_congr {K:St→Prop} {dst:Option Tmp} {id:Nat} {es:Array MapEntry} {clk:Nat} {done:List MapEntry} {st st':St} (h:st=st'):NextK K dst id es clk done st=NextK K dst id es clk done st':=by rw[h]
theorem NextK.mk {K:St→Prop} {dst:Option Tmp} {id:Nat} {es:Array MapEntry} {clk:Nat} {done:List MapEntry} {st:St} (h0:(∀ e∈es.toList,e.born∈done.map (·.born))→K (st.put dst (.tup [.v (.bool false)])))
 (h1:∀ e∈es.toList,e.born∉done.map (·.born)→K ((st.setH id (.iter es clk (done++[e]))).put dst (.tup [.v (.bool true),.v e.key,.v e.val]))):NextK K dst id es clk done st:=⟨h0,h1⟩
def natOf:AV→Option Nat
 | .v (.int _ i)=>if 0≤i then some i.toNat else none
 | _=>none
theorem zr3 {p:AV} {n:Nat} (h:natOf p=some n):∃ k,p=.v (.int k (n:Int)):=by
 unfold natOf at h
 split at h
 · rename_i k i
   split at h
   · rename_i h0;simp only[Option.some.injEq]at h;exact⟨k,by rw[← h];congr 2;omega⟩
   · cases h
 · cases h
theorem Rel.makeOwn {G:Ctx} {st:St} {E:Env} {a:Act} (hr:Rel G st E a) {t e:TypeId} {sz bytes C:Nat} (he:tElem G.P t=some e) (hs:tSize G.P e=some sz) (hb:ylk G.P e=some bytes) (hz:(tZero G.P e).isSome=true) (hC:bytes * C≤281474976710656) (h63:C≤maxLen) (id:Nat) (kl kc:IntKind) :
 ∃ E',(Instr.makeSlice t (.int kl 0) (.int kc (C:Int))).run G.P E.w=.ok (.slice (some ⟨E.w.heap.size,0,none⟩) 0 C) E'.w∧Rel G (st.setArr id e sz []) E' a∧VR E' (.ref id (st.ver id+1)) (.slice (some ⟨E.w.heap.size,0,none⟩) 0 C):=by
 obtain⟨i,hi,hisz⟩:=Option.map_eq_some_iff.1 hs
 have hiby:i.bytes=bytes:=by have:=hb;unfold ylk at this;simpa [hi] using this
 obtain⟨z,hz0⟩:=Option.isSome_iff_exists.1 hz
 have hiz:i.zero=some z:=by unfold tZero at hz0;simpa [hi] using hz0
 obtain⟨w',h1,h2,h3⟩:=run_make_own (P:=G.P) E.w G.w0.heap.size t e i z sz (ylr he) hi hiz hisz kl kc C (by rw[hiby];exact hC) h63 hr.below.size
 let o:Own:=⟨.slice (some ⟨E.w.heap.size,0,none⟩) 0 C,E.w.heap.size,sz⟩
 have hve:E.ver id=st.ver id:=by rw[hr.ver]
 have hkeep:∀ b,b < E.w.heap.size→w'.heap[b]? = E.w.heap[b]? := fun b hb=>h3.block b hb (by simp)
 refine⟨{ ver:=upd E.ver id (st.ver id+1),own:=upd E.own id o,S:=E.S,w:=w' },h1,?_,.ref _ _ _ (by simp[upd]) fun _=>by simp[upd,o]⟩
 refine hr.own id (.arr e sz []) o (st.ver id+1) rfl (by omega) rfl (fun h=>by omega) rfl (hr.below.grown h3 hr.below.size (fun k h=>by cases h)) h3.size (fun b hb _=>hkeep b hb) ?_ ?_
 · exact⟨rfl,[],h2.w,by simp,⟨rfl,by simp⟩,fun b hb=>by simp only[o,Value.ownBlock,Option.some.injEq]at hb;subst hb;exact⟨rfl,fun h=>absurd (hr.Slt _ h) (by simp)⟩⟩
 · intro b hb;simp only[Blk.at,o,Value.ownBlock,Option.some.injEq]at hb;subst hb;exact .inr (Nat.le_refl _)
def yrv (z:Value):AV :=
 match z with
 | .agg us=>.agg (yps (.agg us))
 | z=>.v z
def zOK (z:Value):Bool :=
 match z with
 | .agg _=>true
 | z=>z.oneCell'
theorem yrw {z:Value} (h:zOK z=true):(yrv z).cells=yps z:=by
 unfold zOK at h
 split at h
 · rfl
 · rename_i hz
   unfold yrv
   split
   · exact (hz _ rfl).elim
   · unfold yps
     rw[zue h];rfl
theorem Rel.makeAny {G:Ctx} {st:St} {E:Env} {a:Act} (hr:Rel G st E a) {t e:TypeId} {sz bytes C L:Nat} {z:Value} (he:tElem G.P t=some e) (hs:tSize G.P e=some sz) (hb:ylk G.P e=some bytes) (hz:tZero G.P e=some z) (hzs:z.cells.size=sz) (hpos:0 < sz) (hzo:zOK z=true) (hLC:L≤C) (hC:bytes * C≤281474976710656) (h63:C≤maxLen) (id:Nat) (kl kc:IntKind) :
 ∃ E',(Instr.makeSlice t (.int kl (L:Int)) (.int kc (C:Int))).run G.P E.w=.ok (.slice (some ⟨E.w.heap.size,0,none⟩) L C) E'.w∧Rel G (st.setArr id e sz (List.replicate L (yrv z))) E' a∧VR E' (.ref id (st.ver id+1)) (.slice (some ⟨E.w.heap.size,0,none⟩) L C):=by
 obtain⟨i,hi,hisz⟩:=Option.map_eq_some_iff.1 hs
 have hiby:i.bytes=bytes:=by have:=hb;unfold ylk at this;simpa [hi] using this
 have hiz:i.zero=some z:=by have:=hz;unfold tZero at this;simpa [hi] using this
 have h63':(C:Int)≤9223372036854775807:=by unfold maxLen at h63;omega
 have hb':(i.bytes:Int) * (C:Int)≤281474976710656:=by
  have h:((i.bytes * C:Nat):Int)≤281474976710656:=by rw[hiby];omega
  rwa [Int.natCast_mul]at h
 have hrun:=run_make (P:=G.P) E.w t e i z (ylr he) hi hiz kl kc L C (by omega) (by omega) hb' h63'
 simp only[Int.toNat_natCast,hisz]at hrun
 have hcl:(yrv z).cells=yps z:=yrw hzo
 have hvl:(yps z).length=sz:=by simp[yps,hzs]
 let us:=madeCells z.cells (C * sz)
 have husz:us.size=C * sz:=size_madeCells _ _
 have husl:us.toList.length=C * sz:=by rw[Array.length_toList];exact husz
 have hmul:L * sz≤C * sz:=Nat.mul_le_mul_right _ hLC
 have hvs:∀ E':Env,VRs E' ((List.replicate L (yrv z)).flatMap AV.cells) (us.toList.take (L * sz)):=fun E'=>by
  have hfl:(List.replicate L (yrv z)).flatMap AV.cells=(List.replicate L (yps z)).flatten:=by
   rw[List.flatMap_def,List.map_replicate,hcl]
  rw[hfl]
  refine⟨by rw[List.length_take,husl,Nat.min_eq_left hmul];simp[hvl],fun k c u hc hu=>?_⟩
  rw[zlp (yps z) (by omega)]at hc
  split at hc
  case isFalse=>cases hc
  rename_i hk
  rw[hvl]at hk hc
  rw[List.getElem?_take,if_pos hk]at hu
  have hk2:k < C * sz:=by omega
  have e1:us.toList[k]? = some (z.cells[k % z.cells.size]!):=by
   simp only[us,madeCells]
   rw[Array.getElem?_toList]
   simp[hk2]
  rw[e1]at hu
  cases hu
  have hlt:k % sz < z.cells.size:=by rw[hzs];exact Nat.mod_lt _ hpos
  have e2:(yps z)[k % sz]? = some (.v (z.cells[k % sz]'hlt)):=by
   unfold yps
   rw[List.getElem?_map,Array.getElem?_toList]
   simp[hlt]
  rw[e2]at hc
  cases hc
  rw[hzs]
  have e3:z.cells[k % sz]! = z.cells[k % sz]'hlt:=by simp[hlt]
  rw[e3];exact .v _
 have hlen:∀ x∈List.replicate L (yrv z),x.cells.length=sz:=fun x hx=>by rw[List.eq_of_mem_replicate hx,hcl];exact hvl
 let o:Own:=⟨.slice (some ⟨E.w.heap.size,0,none⟩) L C,E.w.heap.size,sz⟩
 have hve:E.ver id=st.ver id:=by rw[hr.ver]
 refine⟨{ ver:=upd E.ver id (st.ver id+1),own:=upd E.own id o,S:=E.S,w:=E.w.alloc (.cells us e (0,0)) },hrun,?_,.ref _ _ _ (by simp[upd]) fun _=>by simp[upd,o]⟩
 refine hr.own id (.arr e sz (List.replicate L (yrv z))) o (st.ver id+1) rfl (by omega) rfl (fun h=>by omega) rfl (hr.below.alloc hr.below.size _) (by simp) (fun b hb _=>znk _ _ b hb) ?_ ?_
 · refine⟨rfl,us.toList.take (L * sz),⟨by rw[List.length_take,husl,Nat.min_eq_left hmul];simp,.inr ⟨E.w.heap.size,C,us,by simp[o],hr.below.size,heap_alloc_new _ _,by simpa using hLC,h63,Nat.le_of_eq husz.symm,by simp⟩⟩,hlen,hvs _,?_⟩
   intro b hb;simp only[o,Value.ownBlock,Option.some.injEq]at hb;subst hb;exact⟨rfl,fun h=>absurd (hr.Slt _ h) (by simp)⟩
 · intro b hb;simp only[Blk.at,o,Value.ownBlock,Option.some.injEq]at hb;subst hb;exact .inr (Nat.le_refl _)
def onMap (st:St) (p:AV) (f:Nat→Array MapEntry→Nat→Prop):Prop :=
 match p with
 | .ref id k=>k=st.ver id∧(match st.h id with
  | .map es clk=>f id es clk
  | _=>False)
 | _=>False
@[congr] theorem onMap_congr {st st':St} {p p':AV} {f:Nat→Array MapEntry→Nat→Prop} (h:st=st') (hp:p=p'):onMap st p f=onMap st' p' f:=by rw[h,hp]
def zt0 (p:AV) (f:KeyQ→Prop) (no:Prop):Prop :=
 match keyQ p with
 | some k=>f k
 | none=>no
@[congr] theorem onKeyQ_congr {p p':AV} {f:KeyQ→Prop} {no:Prop} (hp:p=p'):zt0 p f no=zt0 p' f no:=by rw[hp]
def onVal (p:AV) (f:Value→Prop):Prop :=
 match p with
 | .v x=>f x
 | _=>False
@[congr] theorem onVal_congr {p p':AV} {f:Value→Prop} (hp:p=p'):onVal p f=onVal p' f:=by rw[hp]
def zt8 (st:St) (p:AV) (f:Nat→Nat→Nat→List AV→Nat→Nat→Prop) (no:Prop):Prop :=
 match p with
 | .osl id k lo hi _=>k=st.ver id∧(match st.h id with
  | .arr e sz xs=>(lo≤hi∧hi≤xs.length)∧f id e sz xs lo hi
  | _=>False)
 | _=>no
@[congr] theorem onOslC_congr {st st':St} {p p':AV} {f:Nat→Nat→Nat→List AV→Nat→Nat→Prop} {no:Prop} (h:st=st') (hp:p=p'):zt8 st p f no=zt8 st' p' f no:=by rw[h,hp]
def onKey (p q:AV) (f:Int→Value→Prop):Prop :=
 match p,q with
 | .v (.int .i64 n),.v x=>f n x
 | _,_=>False
@[congr] theorem onKey_congr {p p' q q':AV} {f:Int→Value→Prop} (h:p=p') (hq:q=q'):onKey p q f=onKey p' q' f:=by rw[h,hq]
def ztz (p:AV) (f:Int→Prop):Prop :=
 match p with
 | .v (.int .i64 n)=>f n
 | _=>False
@[congr] theorem onKeyI_congr {p p':AV} {f:Int→Prop} (h:p=p'):ztz p f=ztz p' f:=by rw[h]
def zt2 (b:Blk) (f:AMap→Prop) (no:Prop):Prop :=
 match b with
 | .amap m=>f m
 | _=>no
@[congr] theorem onMapAB_congr {b b':Blk} {f:AMap→Prop} {no:Prop} (h:b=b'):zt2 b f no=zt2 b' f no:=by rw[h]
def zt1 (st:St) (p:AV) (f:Nat→AMap→Prop) (no:Prop):Prop :=
 match p with
 | .ref id k=>(k=st.ver id→zt2 (st.h id) (f id) no)∧(k≠st.ver id→no)
 | _=>no
@[congr] theorem onMapA_congr {st st':St} {p p':AV} {f:Nat→AMap→Prop} {no:Prop} (h:st=st') (hp:p=p'):zt1 st p f no=zt1 st' p' f no:=by rw[h,hp]
def mdel (es:Array MapEntry) (n:Int):Array MapEntry :=
 match findI n es.toList 0 with
 | some x=>es.eraseIdxIfInBounds x.1
 | none=>es
def onStr (p:AV) (f:ByteArray→Prop) (no:Prop):Prop :=
 match p with
 | .v (.string s)=>f s
 | _=>no
@[congr] theorem onStr_congr {p p':AV} {f:ByteArray→Prop} {no:Prop} (h:p=p'):onStr p f no=onStr p' f no:=by rw[h]
theorem zud {st:St} {sz:Nat} {p:AV} {ys:List AV} (h:srcAV st sz p=some ys) (f:ByteArray→Prop) (no:Prop):onStr p f no=no:=by
 cases p with
 | v y=>cases y<;>first|rfl|(simp[srcAV]at h)
 | _=>rfl
def ztm (st:St) (p:AV) (f:Nat→Nat→Nat→List AV→Prop):Prop :=
 match p with
 | .ref id k=>k=st.ver id∧(match st.h id with
  | .arr e sz xs=>f id e sz xs
  | _=>False)
 | _=>False
@[congr] theorem onArrP_congr {st st':St} {p p':AV} {f:Nat→Nat→Nat→List AV→Prop} (h:st=st') (hp:p=p'):ztm st p f=ztm st' p' f:=by rw[h,hp]
def ztu (p:AV) (f:TypeId→AV→Prop):Prop :=
 match p with
 | .iface t x=>f t x
 | _=>False
@[congr] theorem onIface_congr {p p':AV} {f:TypeId→AV→Prop} (h:p=p'):ztu p f=ztu p' f:=by rw[h]
def ynr (P:Program) (t:TypeId) (name:String):Option FuncId :=
 match P.info? t,P.underlying t with
 | some i,some u=>match i.methods.find? (·.name==name),u with
  | some m,.struct _=>if m.path.isEmpty=true then match m.func with
   | some (f,false)=>some f
   | _=>none
   else none
  | _,_=>none
 | _,_=>none
theorem yhi {P:Program} {t:TypeId} {name:String} {f:FuncId} (h:ynr P t name=some f) (v:Value) (w:World) (d:Nat):(method (d+1) t v name).run P w=.ok (f,v) w:=by
 unfold ynr at h
 split at h
 case h_2=>cases h
 rename_i i u hi hu
 split at h
 case h_2=>cases h
 rename_i m fs hm
 split at h
 case isFalse=>cases h
 rename_i hp
 split at h
 case h_2=>cases h
 rename_i f' hf
 cases h
 have hp':m.path.toList=[]:=by
  have:m.path=#[]:=by simpa using hp
  rw[this]
 simp[method,typeInfo,hi,hm,hp',follow,hf,receiverAt,run_underlying hu,Place.get]
def zuc (c:Bool) (p:AV) (f:ByteArray→Prop) (no:Prop):Prop :=
 match c,p with
 | true,.v (.string s)=>f s
 | _,_=>no
@[congr] theorem onStrB_congr {c c':Bool} {p p':AV} {f:ByteArray→Prop} {no:Prop} (hc:c=c') (h:p=p'):zuc c p f no=zuc c' p' f no:=by rw[hc,h]
def zoq (P:Program) (t:TypeId):Bool:=decide (((tElem P t).bind (tInt P))=some .u8)
theorem Rel.drew0 {G:Ctx} {st:St} {E:Env} {a:Act} (hr:Rel G st E a):Rel G st { E with w:=E.w.drew } a :=
 hr.later (E':={ E with w:=E.w.drew }) ⟨fun _ h=>h,fun _ _=>rfl,fun _=>Nat.le_refl _,fun _ _=>rfl⟩ rfl hr.below.drew hr.Slt (fun _ h=>.inl h) fun _ _=>rfl
theorem zhi {G:Ctx} {st:St} {E:Env} {a:Act} (hr:Rel G st E a) {s d:TypeId} {b:ByteArray} (hs:tStr G.P s=true) (hd:zoq G.P d=true) (hn:b.size≤140737488355328) :
 ∃ z E',(convert s d (.string b)).run G.P E.w=.ok z E'.w∧Rel G st E' a∧VR E' (.lst 1 (zfm b)) z:=by
 unfold zoq at hd
 obtain⟨e,he,hi⟩:=Option.bind_eq_some_iff.1 (of_decide_eq_true hd)
 have hrun:=run_bytes_of_string (P:=G.P) E.w s d e b (yoj hs) (ylr he) (ynp hi)
 have hge:=grownCap_ge E.w b.size 0 e
 have hle:=grownCap_le_maxLen E.w b.size 0 e (by unfold maxLen;omega)
 generalize grownCap E.w b.size 0 e=cap at hrun hge hle
 refine⟨_,_,hrun,hr.drew0.frozen (.cells (bytesRow b cap) e ((bytesRow b cap).size,(bytesRow b cap).size+1)),?_⟩
 have hbl:(zfm b).length=b.size:=zfo b
 have:=VR.lst (E:=Env.frozen { E with w:=E.w.drew } (.cells (bytesRow b cap) e ((bytesRow b cap).size,(bytesRow b cap).size+1))) 1 (zfm b) E.w.heap.size 0 cap (fun k=>(bytesRow b cap).getD k undef) (.inr rfl) (by rw[hbl];exact hge) hle (fun k hk=>by
  show (E.w.drew.alloc _).cell? ⟨E.w.heap.size,0+k,none⟩=_
  rw[cell_of_row (E.w.drew.alloc _) E.w.heap.size (0+k) (bytesRow b cap) e _ (heap_alloc_new E.w.drew _)]
  have hk':k < b.size:=by rw[hbl]at hk;omega
  have hsz:(bytesRow b cap).size=b.size+(cap - b.size):=by simp[bytesRow]
  have hlt:k < (bytesRow b cap).size:=by omega
  simp[Array.getD_eq_getD_getElem?,hlt])
  (fun i x hx=>by
   unfold zfm at hx
   simp only[List.getElem?_map,Option.map_eq_some_iff]at hx
   obtain⟨_,_,rfl⟩:=hx;rfl)
  (fun i x j c hx hc=>by
   unfold zfm at hx
   simp only[List.getElem?_map,Option.map_eq_some_iff,Array.getElem?_toList]at hx
   obtain⟨y,hy,rfl⟩:=hx
   have hj:j=0:=by
    cases j with
    | zero=>rfl
    | succ j=>simp[AV.cells]at hc
   subst hj
   simp[AV.cells]at hc
   subst hc
   have:(bytesRow b cap).getD (i * 1+0) undef=.int .u8 y.toNat:=by
    have hlt:i < b.data.size:=(Array.getElem?_eq_some_iff.1 hy).1
    simp[bytesRow,Array.getD_eq_getD_getElem?,Array.getElem?_append,hlt,hy]
    have hlt':i < b.size:=hlt
    simp[hlt']
   rw[this];exact .v _)
 rw[hbl]at this
 exact this
def znm (st:St):Option Operand→Prop
 | none=>True
 | some x=>∃ k n,st.ev x=.v (.int k n)
def zub {α:Sort _} (p:AV) (a:Nat→α) (b:α):α :=
 match p with
 | .rptr id _ _ _=>a id
 | _=>b
@[congr] theorem onRptr_congr {p p':AV} {a:Nat→Prop} {b:Prop} (h:p=p'):zub p a b=zub p' a b:=by rw[h]
theorem zty {st:St} {p:AV} {f:Nat→Array MapEntry→Nat→List MapEntry→Prop} (h:ztv st p f):∃ id es clk done,p=.rptr id (st.ver id) 0 0∧st.h id=.iter es clk done∧f id es clk done:=by
 unfold ztv at h
 split at h
 · rename_i id k
   obtain⟨rfl,h⟩:=h
   unfold ztw at h
   split at h
   · rename_i es clk done hh
     exact⟨id,es,clk,done,rfl,hh,h⟩
   · cases h
 · cases h
theorem Rel.iterOwn {G:Ctx} {st:St} {E:Env} {a:Act} (hr:Rel G st E a) {b clk:Nat} {es:Array MapEntry} (hS:E.S b) (hb:E.w.heap[b]? = some (.map es clk)) (hok:mapOK es clk) (id:Nat) :
 ∃ E',E'.w=E.w.alloc (.mapIter (some b) clk #[] clk)∧Rel G (st.setIter id es clk []) E' a∧VR E' (.rptr id (st.ver id+1) 0 0) (.pointer (some ⟨E.w.heap.size,0,none⟩)):=by
 have hve:E.ver id=st.ver id:=by rw[hr.ver]
 let o:Own:=⟨.pointer none,E.w.heap.size,0⟩
 refine⟨{ ver:=upd E.ver id (st.ver id+1),own:=upd E.own id o,S:=E.S,w:=E.w.alloc (.mapIter (some b) clk #[] clk) },rfl,?_,.rptr _ _ _ _ _ (by simp[upd]) fun _=>by simp[upd,o]⟩
 refine hr.own id (.iter es clk []) o (st.ver id+1) rfl (by omega) rfl (fun h=>by omega) rfl (hr.below.alloc hr.below.size _) (by simp) (fun b hb _=>znk _ _ b hb) ?_ ?_
 · exact⟨b,hS,by rw[znk _ _ b (hr.Slt b hS)];exact hb,heap_alloc_new _ _,hr.below.size,fun h=>absurd (hr.Slt _ h) (by simp[o]),hok,(fun _ h=>by cases h),rfl⟩
 · intro b hb;simp only[Blk.at,o,Option.some.injEq]at hb;subst hb;exact .inr (Nat.le_refl _)
theorem Rel.iterNext {G:Ctx} {st:St} {E:Env} {a:Act} (hr:Rel G st E a) {id clk:Nat} {es:Array MapEntry} {done:List MapEntry} (hh:st.h id=.iter es clk done) (ty:TypeId) :
 ((∀ e∈es.toList,e.born∈done.map (·.born))∧(Instr.next (.pointer (some ⟨(E.own id).blk,0,none⟩)) false ty).run G.P E.w=.ok (.tuple #[.bool false]) E.w) ∨
 ∃ e∈es.toList,e.born∉done.map (·.born)∧∃ w',(Instr.next (.pointer (some ⟨(E.own id).blk,0,none⟩)) false ty).run G.P E.w=.ok (.tuple #[.bool true,e.key,e.val]) w'∧Rel G (st.setH id (.iter es clk (done++[e]))) { E with w:=w' } a:=by
 have hb:=hr.blocks id
 rw[hh]at hb
 obtain⟨b,hS,hm,hit,hbase,hnS,hok,hin,hsz⟩:=hb
 rcases run_next_at (P:=G.P) E.w ty (E.own id).blk b clk clk _ es clk hit hm hok.1 (Nat.le_refl _) with ⟨h0,h1⟩|⟨e,he,w1,hw1,h1⟩
 · refine .inl ⟨fun e he=>?_,h1⟩
   have:=all_seen es _ h0 e he
   simpa using this
 · obtain⟨he1,he2⟩:=mem_left he
   refine .inr ⟨e,he1,by simpa using he2,_,h1,?_⟩
   have hne:(E.own id).blk≠b:=fun h=>hnS (h ▸ hS)
   have hlt:=(Array.getElem?_eq_some_iff.1 hit).1
   have hheap:w1.heap=E.w.heap:=by rcases hw1 with rfl|rfl<;>rfl
   have hbl:Below G.w0.heap.size G.w0 w1:=by
    rcases hw1 with rfl|rfl
    · exact hr.below
    · exact⟨hr.below.os,hr.below.tape,hr.below.output,hr.below.size,hr.below.block⟩
   have hset:∀ o,ChangeMaps.setBlock w1 (E.own id).blk o=w1.putObj (E.own id).blk o:=fun _=>rfl
   rw[hset]
   have hr':=hr.own (E':={ E with w:=w1.putObj (E.own id).blk (.mapIter (some b) clk (((done.map (·.born)).toArray).push e.born) clk) }) id (.iter es clk (done++[e])) (E.own id) (E.ver id) (by funext j;by_cases h:j=id<;>simp[upd,h]) (Nat.le_refl _) (by funext j;by_cases h:j=id<;>simp[upd,h]) (fun _=>rfl) rfl
    (zer hbl hbase _) (by rw[World.putObj_size,hheap];exact Nat.le_refl _) (fun c hc hne'=>by rw[World.putObj_heap_other (fun he=>hne' (by rw[hh,he];rfl)),hheap])
    ⟨b,hS,by rw[World.putObj_heap_other (Ne.symm hne),hheap];exact hm,by rw[World.putObj_heap_same (by rw[hheap];exact hlt)];simp,hbase,hnS,hok,(fun x hx=>by
     rcases List.mem_append.1 hx with hx|hx
     · exact hin x hx
     · simp only[List.mem_singleton]at hx;subst hx;exact he1),hsz⟩ (fun c hc=>.inl (by rw[hh];exact hc))
   have he':upd st.ver id (E.ver id)=st.ver:=by funext j;by_cases h:j=id<;>simp[upd,h,hr.ver]
   rw[he']at hr'
   exact hr'
def vcOp (G:Ctx) (own:List Nat) (K:St→Prop) (o:Oper) (st:St):Prop :=
 match o.op with
 | .alloc t=>match o.dst with
  | some d=>bindP (tZero G.P t) fun z=>(yps z).all (zte st)=true∧K ((st.setBox (G.ids d) (yps z)).put (some d) (.rptr (G.ids d) (st.ver (G.ids d)+1) 0 0))
  | none=>False
 | .box _ x=>match o.dst with
  | some d=>zth st (st.ev x)=true∧if d∈own then K ((st.setBox (G.ids d) (st.ev x).cells).put (some d) (.rptr (G.ids d) (st.ver (G.ids d)+1) 0 0)) else K (st.put (some d) (.eptr (st.ev x).cells 0))
  | none=>False
 | .build t parts=>bindP (zfi G.P st t parts) fun r=>K (st.put o.dst r)
 | .buildSlice t len parts=>match o.dst with
  | some d=>bindP (litAV G.P st t len parts) fun x=>if d∈own then K ((st.setArr (G.ids d) x.1 x.2.1 x.2.2).put (some d) (.ref (G.ids d) (st.ver (G.ids d)+1))) else K (st.put (some d) (.lst x.2.1 x.2.2))
  | none=>False
 | .binOp op t x y k=>onNil (zsl st (st.ev x))
  (fun xs=>st.ev y=.v (.slice none 0 0)∧(tElem G.P t).isSome=true∧((op=.eql∧∀ b:Bool,(b=true→xs=[])→K (st.put o.dst (.v (.bool b))))∨(op=.neq∧∀ b:Bool,(b=false→xs=[])→K (st.put o.dst (.v (.bool b))))))
  (bindP (evalV G.P st (.binOp op t x y k)) fun r=>K (st.put o.dst r))
 | .store t p x=>bindP (ykv G.P st t (st.ev p) (st.ev x)) fun st'=>K (st'.put o.dst .junk)
 | .call c=>match c.callee with
  | .builtin .append=>match c.args.toList,c.argTypes.toList,o.dst with
   | [p,q],[t,t'],some d=>onStr (st.ev q) (fun s=>bindP (tElem G.P t) fun e=>(tStr G.P t'=true∧tSize G.P e=some 1∧ylk G.P e=some 1∧tZero G.P e=some (.int .u8 0))∧bindP (zib st (G.ids d) e 1 (st.ev p)) fun dx=>dx.2.length+s.size≤140737488355328 ∧
    K ((st.setArr dx.1 e 1 (dx.2++zfm s)).put (some d) (.ref dx.1 (st.ver dx.1+1)))) <| t'=t∧bindP (tElem G.P t) fun e=>bindP (tSize G.P e) fun sz=>bindP (ylk G.P e) fun bytes=>((tZero G.P e).map (·.cells.size)=some sz∧0 < sz) ∧
    ztr (zmk (st.ev p)) (fun sz' xs=>sz'=sz∧bindP (srcAV st sz (st.ev q)) fun ys=>((∀ c∈ys,zth st c=true)∧(xs.length+ys.length) * bytes≤140737488355328∧xs.length+ys.length≤140737488355328) ∧
     (ys=[]→K (st.put (some d) (.lst sz xs)))∧(ys≠[]→K ((st.setArr (G.ids d) e sz (xs++ys)).put (some d) (.ref (G.ids d) (st.ver (G.ids d)+1)))))
    (onOsl (oslOf st (st.ev p)) (fun id e' sz' xs lo hi=>(e'=e∧sz'=sz)∧bindP (srcAV st sz (st.ev q)) fun ys=>((∀ c∈ys,zth st c=true)∧(hi - lo+ys.length) * bytes≤140737488355328∧hi - lo+ys.length≤140737488355328) ∧
     (ys=[]→lo=0∧K ((st.setArr id e sz (xs.take hi)).put (some d) (.ref id (st.ver id+1))))∧(ys≠[]→K ((st.setArr (G.ids d) e sz ((xs.drop lo).take (hi - lo)++ys)).put (some d) (.ref (G.ids d) (st.ver (G.ids d)+1)))))
    (bindP (zib st (G.ids d) e sz (st.ev p)) fun dx=>bindP (srcAV st sz (st.ev q)) fun ys=>((∀ c∈ys,zth st c=true)∧(dx.2.length+ys.length) * bytes≤140737488355328∧dx.2.length+ys.length≤140737488355328) ∧
    K ((st.setArr dx.1 e sz (dx.2++ys)).put (some d) (.ref dx.1 (st.ver dx.1+1)))))
   | _,_,_=>False
  | .builtin .clear=>match c.args.toList,c.argTypes.toList with
   | [x],[t]=>zt8 st (st.ev x) (fun id e sz xs lo hi=>tElem G.P t=some e∧bindP (tZero G.P e) fun z=>(z.cells.toList.all (·.oneCell')=true∧z.cells.size=sz∧0 < sz) ∧
    K ((st.setH id (.arr e sz (xs.take lo++List.replicate (hi - lo) (.agg (yps z))++xs.drop hi))).put o.dst (.tup [])))
    ((tMap G.P t).isSome=true∧onMap st (st.ev x) fun id _ clk=>K ((st.setH id (.map #[] clk)).put o.dst (.tup [])))
   | _,_=>False
  | .builtin .delete=>match c.args.toList,c.argTypes.toList with
   | [x,k],t::_=>bindP (tMap G.P t) fun y=>tInt G.P y.1=some .i64∧onMap st (st.ev x) fun id es clk=>intM es=true∧ztz (st.ev k) fun n=>K ((st.setH id (.map (mdel es n) clk)).put o.dst (.tup []))
   | _,_=>False
  | .builtin .copy=>match c.args.toList,c.argTypes.toList with
   | [p,q],[t,_]=>bindP (tElem G.P t) fun e=>bindP (tSize G.P e) fun sz=>ztm st (st.ev p) fun id e' sz' xs=>(e'=e∧sz'=sz)∧bindP (srcAV st sz (st.ev q)) fun ys=>(∀ c∈ys,zth st c=true) ∧
    K ((st.setH id (.arr e sz (ys.take xs.length++xs.drop ys.length))).put o.dst (.v (.int .i64 ((min ys.length xs.length:Nat):Int))))
   | _,_=>False
  | .builtin _=>bindP (evalV G.P st o.op) fun r=>K (st.put o.dst r)
  | .value f=>onFn2 (st.ev f) (fun g first captured=>CallSem G g (first++(c.args.toList.map st.ev++captured)) o.dst K st) (fun l=>YieldSem G l (c.args.toList.map st.ev) o.dst K st)
  | .invoke p name=>ztu (st.ev p) fun t x=>bindP (ynr G.P t name) fun g=>CallSem G g (x::c.args.toList.map st.ev) o.dst K st
 | .makeSlice t l c=>match o.dst with
  | some d=>bindP (tElem G.P t) fun e=>bindP (tSize G.P e) fun sz=>bindP (ylk G.P e) fun bytes=>bindP (tZero G.P e) fun z=>bindP (natOf (st.ev c)) fun C=>bindP (natOf (st.ev l)) fun L=>((L=0∨(L≤C∧z.cells.size=sz∧0 < sz∧zOK z=true))∧bytes * C≤281474976710656∧C≤281474976710656)∧K ((st.setArr (G.ids d) e sz (List.replicate L (yrv z))).put (some d) (.ref (G.ids d) (st.ver (G.ids d)+1)))
  | none=>False
 | .makeMap t r=>match o.dst with
  | some d=>(tMap G.P t).isSome=true∧znm st r∧K ((st.setMap (G.ids d) #[] 0).put (some d) (.ref (G.ids d) (st.ver (G.ids d)+1)))
  | none=>False
 | .mapEntry t m k=>bindP (tMap G.P t) fun y=>tInt G.P y.1=some .i64∧zt1 st (st.ev m) (fun id mm=>ztz (st.ev k) fun n=>bindP (tZero G.P y.2) fun z=>K ((st.setH id (.amap (mm.put n ((mm.f n).getD (.v z))))).put o.dst (.tup [(mm.f n).getD (.v z),.v (.int .i64 (mm.stamp n))]))) False
 | .entryStore t m s x=>zt1 st (st.ev m) (fun id mm=>ztz (st.ev s) fun b=>∃ n,(mm.f n).isSome=true∧(mm.b n:Int)=b∧K ((st.setH id (.amap (mm.put n (st.ev x)))).put o.dst .junk)) False
 | .mapUpdate t m k x=>bindP (tMap G.P t) fun y=>zt0 (st.ev k) (fun q=>q.okT G.P y.1=true∧onMap st (st.ev m) fun id es clk=>qM es q=true∧onVal (st.ev x) fun v=>K ((st.setH id (.map (qput es clk q v).1 (qput es clk q v).2)).put o.dst .junk)) (tInt G.P y.1=some .i64∧zt1 st (st.ev m) (fun id mm=>ztz (st.ev k) fun n=>K ((st.setH id (.amap (mm.put n (st.ev x)))).put o.dst .junk)) (onMap st (st.ev m) fun id es clk=>intM es=true∧onKey (st.ev k) (st.ev x) fun n v=>K ((st.setH id (.map (mput es clk n v).1 (mput es clk n v).2)).put o.dst .junk)))
 | .slice t x lo hi mx=>zub (st.ev x) (fun id=>bindP (evalV G.P (st.freeze id) (.slice t x lo hi mx)) fun r=>K ((st.freeze id).put o.dst r)) (bindP (evalV G.P st (.slice t x lo hi mx)) fun r=>K (st.put o.dst r))
 | .range t x=>match o.dst with
  | some d=>(tMap G.P t).isSome=true∧zt5 st (st.ev x) fun es clk st=>mapOK es clk∧K ((st.setIter (G.ids d) es clk []).put (some d) (.rptr (G.ids d) (st.ver (G.ids d)+1) 0 0))
  | none=>False
 | .next x b=>b=false∧ztv st (st.ev x) fun id es clk done=>NextK K o.dst id es clk done st
 | .entry x=>ztv st (st.ev x) fun _ _ _ done=>bindP done.getLast? fun e=>K (st.put o.dst (.tup [.v e.key,.v e.val]))
 | .convert s d x=>zuc (zoq G.P d) (st.ev x) (fun b=>(tStr G.P s=true∧b.size≤140737488355328)∧K (st.put o.dst (.lst 1 (zfm b)))) (bindP (evalV G.P st (.convert s d x)) fun r=>K (st.put o.dst r))
 | op=>bindP (evalV G.P st op) fun r=>K (st.put o.dst r)
def dstOK (n:Nat):Option Tmp→Prop
 | some d=>d < n
 | none=>True
def zm8 (p:AV) (want:Bool):Option Bool :=
 match p with
 | .v (.bool b)=>some (b==want)
 | .v (.tuple _)=>some false
 | _=>none
def zm7 (ops:Array Oper) (j:Nat):Option Tmp:=(ops[j]?).bind (·.dst)
def vcOps (G:Ctx) (own:List Nat) (ops:Array Oper) (Q:St→Prop):List Oper→St→Prop
 | [],st=>Q st
 | o::rest,st=>dstOK G.n o.dst∧match o.guard with
  | none=>vcOp G own (vcOps G own ops Q rest) o st
  | some (j,want)=>match zm7 ops j with
   | some t=>bindP (zm8 (st.σ t) want) fun b=>if b=true then vcOp G own (vcOps G own ops Q rest) o st else vcOps G own ops Q rest (st.put o.dst (.v undef))
   | none=>False
section
variable {G:Ctx} {st:St} {E:Env} {a:Act}
theorem run_box {P:Program} (t:TypeId) (x:Value) (w:World):(Instr.box t x).run P w=.ok (.pointer (some ⟨w.heap.size,0,none⟩)) (w.alloc (.cells x.cells t (0,0))):=by
 simp[Instr.box,newVar,newRow]
theorem yhr {P:Program} {t:TypeId} {z:Value} (h:tZero P t=some z) (w:World):(zeroValue t).run P w=.ok z w:=by
 unfold tZero at h
 cases hi:P.info? t with
 | none=>simp[hi]at h
 | some i =>
  have:i.zero=some z:=by simpa [hi] using h
  simp[zeroValue,typeInfo,hi,this]
theorem zt3 {p:AV} {f:Nat→AMap→Prop} {no:Prop} (h:zt1 st p f no):(∃ id m,p=.ref id (st.ver id)∧st.h id=.amap m∧f id m)∨no:=by
 unfold zt1 at h
 split at h
 · rename_i id k
   by_cases hk:k=st.ver id
   · subst hk
     have h:=h.1 rfl
     unfold zt2 at h
     split at h
     · rename_i m hh;exact .inl ⟨id,m,rfl,hh,h⟩
     · exact .inr h
   · exact .inr (h.2 hk)
 · exact .inr h
theorem yg8 {P:Program} {ts:Array TypeId} {t ty kt et:TypeId} (h0:ts[0]? = some t) (hm:P.underlying t=some (.map kt et)) (hk:P.underlying kt=some (.int .i64)) {w:World} {r clk:Nat} {es:Array MapEntry} (hb:w.heap[r]? = some (.map es clk)) (hi:intM es=true) (n:Int) :
 (Builtin.delete_ ts ty #[.map (some r),.int .i64 n]).run P w=.ok (.tuple #[]) (w.putObj r (.map (mdel es n) clk)):=by
 unfold mdel
 cases hf:findI n es.toList 0 with
 | none=>simp[Builtin.delete_,h0,run_underlying hm,MapKept.run_getObj_map hb,yg6 hk,yhc hk hi,hf,MapKept.run_setObj_map _ hb,World.putObj]
 | some x=>obtain⟨i,v⟩:=x;simp[Builtin.delete_,h0,run_underlying hm,MapKept.run_getObj_map hb,yg6 hk,yhc hk hi,hf,MapKept.run_setObj_map _ hb,World.putObj]
theorem yp1 (own:List Nat) {o:Oper} {K:St→Prop} (hny:∀ c f l,o.op=.call c→c.callee=.value f→st.ev f≠.v (.func (.yield l) #[] #[])) (hd:dstOK G.n o.dst) (hr:Rel G st E a) (h:vcOp G own K o st) {Q:Exit→Act→World→Prop} :
 o.wp G.P a E.w (fun a' w'=>∃ st' E',E'.w=w'∧Rel G st' E' a'∧K st') Q:=by
 have hdst:∀ d,o.dst=some d→d < G.n:=fun d he=>by rw[he]at hd;exact hd
 have value:∀ {r:AV},evalV G.P st o.op=some r→K (st.put o.dst r)→o.wp G.P a E.w (fun a' w'=>∃ st' E',E'.w=w'∧Rel G st' E' a'∧K st') Q:=by
  intro r hr1 hk
  obtain⟨z,h1,h2⟩:=zi9 hr hr1
  unfold Oper.wp
  rw[h1,Oper.upon_value]
  exact⟨_,E,rfl,hr.put h2 hdst,hk⟩
 unfold vcOp at h
 split at h
 · rename_i t ho
   split at h
   case h_2=>cases h
   rename_i d hdd
   obtain⟨z,hz,hzc,hk⟩:=h
   obtain⟨E',hw,hrel,hv⟩:=hr.boxOwn (ypt E z) t (G.ids d)
   unfold Oper.wp
   have hrun:(execOp a.eval o).run G.P E.w=.ok (.value (.pointer (some ⟨E.w.heap.size,0,none⟩))) (E.w.alloc (.cells z.cells t (0,0))):=by
    simp[execOp,ho,Instr.alloc,yhr hz,newVar,newRow]
   rw[hrun,Oper.upon_value]
   refine⟨_,E',hw,?_,hk⟩
   rw[hdd]
   exact hrel.put hv (fun d' he=>by cases he;exact hdst _ hdd)
 · rename_i t x ho
   split at h
   case h_2=>cases h
   rename_i d hdd
   obtain⟨hok,hk⟩:=h
   have hrun:(execOp a.eval o).run G.P E.w=.ok (.value (.pointer (some ⟨E.w.heap.size,0,none⟩))) (E.w.alloc (.cells (a.eval x).cells t (0,0))):=by
    simp[execOp,ho,run_box]
   unfold Oper.wp
   rw[hrun,Oper.upon_value,hdd]
   split at hk
   · obtain⟨hv,_⟩:=ztj hr (hr.ev x) hok
     obtain⟨E',hw,hrel,hv'⟩:=hr.boxOwn hv t (G.ids d)
     exact⟨_,E',hw,hrel.put hv' (fun d' he=>by cases he;exact hdst _ hdd),hk⟩
   · obtain⟨hrel,hv⟩:=hr.boxFrozen (hr.ev x) hok t
     exact⟨_,_,rfl,hrel.put hv (fun d' he=>by cases he;exact hdst _ hdd),hk⟩
 · rename_i t parts ho
   obtain⟨r,hb,hk⟩:=h
   obtain⟨z,h1,h2⟩:=zfj hr hb
   have hrun:(execOp a.eval o).run G.P E.w=.ok (.value z) E.w:=by
    simp only[execOp,ho,Sem.run_bind,h1];rfl
   unfold Oper.wp
   rw[hrun,Oper.upon_value]
   exact⟨_,E,rfl,hr.put h2 hdst,hk⟩
 · rename_i t len parts ho
   split at h
   case h_2=>cases h
   rename_i d hdd
   obtain⟨⟨e,sz,xs⟩,hl,hk⟩:=h
   simp only at hk
   obtain⟨us,hrun0,hxl,hcl,hvs,hone,hokx,hus⟩:=run_lit hr hl
   have hrun:(execOp a.eval o).run G.P E.w=.ok (.value (.slice (some ⟨E.w.heap.size,0,none⟩) len len)) (E.w.alloc (.cells us e (0,0))):=by
    simp only[execOp,ho,Sem.run_bind,hrun0];rfl
   have hlen:xs.length≤maxLen:=by
    unfold litAV at hl
    split at hl
    · cases hl
    split at hl
    · cases hl
    rename_i sz' hsz'
    split at hl
    case isFalse=>cases hl
    rename_i hc
    rw[hxl]
    unfold maxLen
    have h3:=hc.2.2.1.2
    omega
   unfold Oper.wp
   rw[hrun,Oper.upon_value,hdd]
   split at hk
   · obtain⟨E',hw,hrel,hv'⟩:=hr.arrOwn (e:=e) hvs hcl hlen (G.ids d)
     rw[hxl]at hv'
     exact⟨_,E',hw,hrel.put hv' (fun d' he=>by cases he;exact hdst _ hdd),hk⟩
   · refine⟨_,_,rfl,(hr.frozen (.cells us e (0,0))).put (r:=.lst sz xs) ?_ (fun d' he=>by cases he;exact hdst _ hdd),hk⟩
     have hle:=E.le_frozen hr.Slt (.cells us e (0,0))
     have hul:us.size=xs.length * sz:=by rw[hus,hxl]
     have:=VR.lst (E:=E.frozen (.cells us e (0,0))) sz xs E.w.heap.size 0 len (fun k=>us.getD k undef) (.inr rfl) (by omega) (by rw[← hxl];exact hlen) (fun k hk=>zmj E us e k (by omega))
      (fun i x hi=>hcl x (List.mem_of_getElem? hi)) (fun i x j c hi hj=>by
       have hjl:j < sz:=by rw[← hcl x (List.mem_of_getElem? hi)];exact (List.getElem?_eq_some_iff.1 hj).1
       have hg:=zlm xs i x j hcl hi hjl
       rw[hj]at hg
       have hi':i < xs.length:=(List.getElem?_eq_some_iff.1 hi).1
       have hmul:i * sz+sz≤xs.length * sz:=by rw[← Nat.succ_mul];exact Nat.mul_le_mul_right _ hi'
       refine (hvs.2 _ c _ hg ?_).mono hle
       simp[Array.getD_eq_getD_getElem?,show i * sz+j < us.size from by omega])
     rw[hxl]at this
     exact this
 · rename_i op t x y k ho
   rcases h with ⟨xs,hxs,h⟩|⟨_,h⟩
   · obtain⟨hy,hte,hk⟩:=h
     obtain⟨e,he⟩:=Option.isSome_iff_exists.mp hte
     have hyv:=hr.ev y
     rw[hy]at hyv
     have hyv:=hyv.v_inv
     obtain⟨ad,n,cp,hx,hnil⟩:∃ ad n cp,a.eval x=.slice ad n cp∧(ad.isNone=true→xs=[]):=by
      have hxv:=hr.ev x
      generalize hp:st.ev x=p at hxs hxv
      generalize a.eval x=z at hxv
      unfold zsl at hxs
      split at hxs
      · cases hxs
        cases hxv with
        | lst _ _ b off cap u _ _ _=>exact⟨_,_,_,rfl,by simp⟩
        | lstNil=>exact⟨_,_,_,rfl,by simp⟩
        | lstNo=>exact⟨_,_,_,rfl,by simp⟩
      · split at hxs
        case isFalse=>cases hxs
        rename_i hk
        split at hxs
        · rename_i hh
          cases hxs
          cases hxv with
          | ref _ _ _ h1 h2 =>
           rw[h2 (by rw[hr.ver];exact hk)]
           have hb:=hr.blocks
           rename_i id _ _ _ _
           have hb:=hb id
           rw[hh]at hb
           obtain⟨_,us,hown,_⟩:=hb
           rcases hown.2 with ⟨hv,hn⟩|⟨g,cap,cur,hv,_⟩
           · exact⟨_,_,_,hv,fun _=>List.eq_nil_of_length_eq_zero hn⟩
           · exact⟨_,_,_,hv,by simp⟩
        · cases hxs
      · cases hxs
     have heq:(Op.equal t (.slice ad n cp) (.slice none 0 0)).run G.P E.w=.ok ad.isNone E.w:=run_equal_slice_nil E.w t e ad n cp (ylr he)
     rcases hk with ⟨rfl,hk⟩|⟨rfl,hk⟩
     · have hrun:(execOp a.eval o).run G.P E.w=.ok (.value (.bool ad.isNone)) E.w:=by
        simp[execOp,ho,hx,hyv,eqGuard,binOp,heq]
       unfold Oper.wp
       rw[hrun,Oper.upon_value]
       exact⟨_,E,rfl,hr.put (.v _) hdst,hk _ hnil⟩
     · have hrun:(execOp a.eval o).run G.P E.w=.ok (.value (.bool !ad.isNone)) E.w:=by
        simp[execOp,ho,hx,hyv,eqGuard,binOp,heq]
       unfold Oper.wp
       rw[hrun,Oper.upon_value]
       exact⟨_,E,rfl,hr.put (.v _) hdst,hk _ fun h=>hnil (by simpa using h)⟩
   · obtain⟨r,hr1,hk⟩:=h
     exact value (by rw[ho];exact hr1) hk
 · rename_i t p x ho
   obtain⟨st',hs,hk⟩:=h
   obtain⟨E',h1,hrel⟩:=ykx hr (hr.ev p) (hr.ev x) hs
   have hrun:(execOp a.eval o).run G.P E.w=.ok .skip E'.w:=by
    simp only[execOp,ho,Sem.run_bind,h1];rfl
   unfold Oper.wp
   rw[hrun,Oper.upon_skip]
   exact⟨_,E',rfl,hrel.put (.junk _) hdst,hk⟩
 · rename_i c ho
   split at h
   · rename_i hcal
     split at h
     case h_2=>cases h
     rename_i p q t t' d hargs htypes hdd
     have hargs':c.args=#[p,q]:=by rw[← Array.toList_inj];simpa using hargs
     unfold onStr at h
     split at h
     case h_1 =>
      rename_i s hes
      obtain⟨e,he,⟨hst,hs,hb,hz⟩,⟨id,xs⟩,hdest,hn,hk⟩:=h
      have htypes':c.argTypes=#[t,t']:=by rw[← Array.toList_inj];simpa using htypes
      have hqs:a.eval q=.string s:=by have:=hr.ev q;rw[hes]at this;exact this.v_inv
      obtain⟨x',E',h1,hrel,hv⟩:=zdy (ty:=o.type) hr (hr.ev p) he hst hs hb hz hdest hn
      have hrun:(execOp a.eval o).run G.P E.w=.ok (.value x') E'.w:=by
       simp[execOp,ho,resolve,hcal,hargs',htypes',invoke,builtin,hqs,h1]
      unfold Oper.wp
      rw[hrun,Oper.upon_value,hdd]
      exact⟨_,E',rfl,hrel.put hv (fun d' he=>by cases he;exact hdst _ hdd),hk⟩
     obtain⟨rfl,e,he,sz,hs,bytes,hb,⟨hz,hpos⟩,h⟩:=h
     have htypes':c.argTypes=#[t',t']:=by rw[← Array.toList_inj];simpa using htypes
     rcases h with ⟨sz',xs,hfull,rfl,ys,hsrc,⟨hok,hn,hn'⟩,hk0,hk1⟩|⟨_,⟨id,e',sz',xs,lo,hi,hosl,⟨rfl,rfl⟩,ys,hsrc,⟨hok,hn,hn'⟩,hk0,hk1⟩|⟨_,⟨id,xs⟩,hdest,ys,hsrc,⟨hok,hn,hn'⟩,hk⟩⟩
     · have hxp:=hr.ev p
       rw[zml hfull]at hxp
       by_cases hne:ys=[]
       · subst hne
         obtain⟨h1,hv⟩:=zdu (ty:=o.type) hr hxp (hr.ev q) he hs hsrc
         have hrun:(execOp a.eval o).run G.P E.w=.ok (.value (a.eval p)) E.w:=by
          simp[execOp,ho,resolve,hcal,hargs',htypes',invoke,builtin,h1]
         unfold Oper.wp
         rw[hrun,Oper.upon_value,hdd]
         exact⟨_,E,rfl,hr.put hv (fun d' he=>by cases he;exact hdst _ hdd),hk0 rfl⟩
       · obtain⟨x',E',h1,hrel,hv⟩:=zdv (id:=G.ids d) (ty:=o.type) hr hxp (hr.ev q) he hs hb hz hpos hsrc hok hne hn (by unfold maxLen;omega)
         have hrun:(execOp a.eval o).run G.P E.w=.ok (.value x') E'.w:=by
          simp[execOp,ho,resolve,hcal,hargs',htypes',invoke,builtin,h1]
         unfold Oper.wp
         rw[hrun,Oper.upon_value,hdd]
         exact⟨_,E',rfl,hrel.put hv (fun d' he=>by cases he;exact hdst _ hdd),hk1 hne⟩
     · have hxp:=hr.ev p
       obtain⟨hpe,hh,hlh,hhi⟩:=oslOf_eq hosl
       rw[hpe]at hxp
       by_cases hne:ys=[]
       · subst hne
         obtain⟨hlo,hk2⟩:=hk0 rfl
         subst hlo
         obtain⟨E',h1,hrel,hv⟩:=zdw (ty:=o.type) hr hh hhi hxp (hr.ev q) he hs hsrc
         have hrun:(execOp a.eval o).run G.P E.w=.ok (.value (a.eval p)) E'.w:=by
          simp[execOp,ho,resolve,hcal,hargs',htypes',invoke,builtin,h1]
         unfold Oper.wp
         rw[hrun,Oper.upon_value,hdd]
         exact⟨_,E',rfl,hrel.put hv (fun d' he=>by cases he;exact hdst _ hdd),hk2⟩
       · obtain⟨x',E',h1,hrel,hv⟩:=zdx (id:=G.ids d) (ty:=o.type) hr hh hlh hhi hxp (hr.ev q) he hs hb hz hpos hsrc hok hne hn (by unfold maxLen;omega)
         have hrun:(execOp a.eval o).run G.P E.w=.ok (.value x') E'.w:=by
          simp[execOp,ho,resolve,hcal,hargs',htypes',invoke,builtin,h1]
         unfold Oper.wp
         rw[hrun,Oper.upon_value,hdd]
         exact⟨_,E',rfl,hrel.put hv (fun d' he=>by cases he;exact hdst _ hdd),hk1 hne⟩
     simp only at hn hn' hk
     obtain⟨x',E',h1,hrel,hv⟩:=zdz (ty:=o.type) hr (hr.ev p) (hr.ev q) he hs hb hz hpos hdest hsrc hok hn (by unfold maxLen;omega)
     have hrun:(execOp a.eval o).run G.P E.w=.ok (.value x') E'.w:=by
      simp[execOp,ho,resolve,hcal,hargs',htypes',invoke,builtin,h1]
     unfold Oper.wp
     rw[hrun,Oper.upon_value,hdd]
     exact⟨_,E',rfl,hrel.put hv (fun d' he=>by cases he;exact hdst _ hdd),hk⟩
   · rename_i hcal
     split at h
     case h_2=>cases h
     rename_i x t hargs htypes
     unfold zt8 at h
     split at h
     · rename_i id k lo hi f hev
       obtain⟨hver,h⟩:=h
       split at h
       case h_2=>cases h
       rename_i e sz xs hh
       obtain⟨⟨hlh,hhx⟩,hte,z,hz,⟨h1,hzs,hpos⟩,h⟩:=h
       have hargs':c.args=#[x]:=by rw[← Array.toList_inj];simpa using hargs
       have htypes':c.argTypes=#[t]:=by rw[← Array.toList_inj];simpa using htypes
       have hmv:=hr.ev x
       rw[hev,hver]at hmv
       obtain⟨E',hrun0,hrel⟩:=zgi (ty:=o.type) hr hh hmv hlh hhx hte hz h1 hzs hpos
       have hrun:(execOp a.eval o).run G.P E.w=.ok (.value (.tuple #[])) E'.w:=by
        simp[execOp,ho,resolve,hcal,hargs',htypes',invoke,builtin,hrun0]
       unfold Oper.wp
       rw[hrun,Oper.upon_value]
       exact⟨_,E',rfl,Rel.put (st:=st.setH id (.arr e sz (xs.take lo++List.replicate (hi - lo) (.agg (yps z))++xs.drop hi))) (r:=.tup []) hrel (.tup [] #[] rfl (by simp)) hdst,h⟩
     obtain⟨hm,h⟩:=h
     obtain⟨⟨kt,et⟩,hm⟩:=Option.isSome_iff_exists.mp hm
     unfold onMap at h
     split at h
     case h_2=>cases h
     rename_i id v hev
     obtain⟨hver,h⟩:=h
     split at h
     case h_2=>cases h
     rename_i es clk hh
     have hargs':c.args=#[x]:=by rw[← Array.toList_inj];simpa using hargs
     have htypes':c.argTypes=#[t]:=by rw[← Array.toList_inj];simpa using htypes
     have hmv:=hr.ev x
     rw[hev]at hmv
     have hb:=hr.blocks id
     rw[hh]at hb
     obtain⟨g1,g2,_⟩:=hb
     have hmm:a.eval x=.map (some (E.own id).blk):=by
      generalize hgm:a.eval x=y at hmv
      cases hmv with
      | ref _ _ _ h1 h2=>rw[h2 (by rw[hr.ver];exact hver)];exact g2
     have hrel:=hr.mapSet hh #[] clk
     have hrun:(execOp a.eval o).run G.P E.w=.ok (.value (.tuple #[])) (E.w.putObj (E.own id).blk (.map #[] clk)):=by
      simp[execOp,ho,resolve,hcal,hargs',htypes',invoke,builtin,Builtin.clear_,run_underlying (ynq hm),hmm,MapKept.run_getObj_map g1,MapKept.run_setObj_map _ g1,World.putObj]
     unfold Oper.wp
     rw[hrun,Oper.upon_value]
     exact⟨_,_,rfl,Rel.put (st:=st.setH id (.map #[] clk)) (r:=.tup []) hrel (.tup [] #[] rfl (by simp)) hdst,h⟩
   · rename_i hcal
     split at h
     case h_2=>cases h
     rename_i x k t ts hargs htypes
     obtain⟨⟨kt,et⟩,hm,hki,h⟩:=h
     unfold onMap at h
     split at h
     case h_2=>cases h
     rename_i id v hev
     obtain⟨hver,h⟩:=h
     split at h
     case h_2=>cases h
     rename_i es clk hh
     obtain⟨hint,h⟩:=h
     unfold ztz at h
     split at h
     case h_2=>cases h
     rename_i n hek
     have hargs':c.args=#[x,k]:=by rw[← Array.toList_inj];simpa using hargs
     have htypes':c.argTypes[0]? = some t:=by rw[← Array.getElem?_toList,htypes];rfl
     have hmv:=hr.ev x
     rw[hev]at hmv
     have hkv:a.eval k=.int .i64 n:=by have:=hr.ev k;rw[hek]at this;exact this.v_inv
     have hb:=hr.blocks id
     rw[hh]at hb
     obtain⟨g1,g2,_⟩:=hb
     have hmm:a.eval x=.map (some (E.own id).blk):=by
      generalize hgm:a.eval x=y at hmv
      cases hmv with
      | ref _ _ _ h1 h2=>rw[h2 (by rw[hr.ver];exact hver)];exact g2
     have hrel:=hr.mapSet hh (mdel es n) clk
     have hrun:(execOp a.eval o).run G.P E.w=.ok (.value (.tuple #[])) (E.w.putObj (E.own id).blk (.map (mdel es n) clk)):=by
      simp[execOp,ho,resolve,hcal,hargs',invoke,builtin,hmm,hkv,yg8 (ts:=c.argTypes) (ty:=o.type) htypes' (ynq hm) (ynp hki) g1 hint n]
     unfold Oper.wp
     rw[hrun,Oper.upon_value]
     exact⟨_,_,rfl,Rel.put (st:=st.setH id (.map (mdel es n) clk)) (r:=.tup []) hrel (.tup [] #[] rfl (by simp)) hdst,h⟩
   · rename_i hcal
     split at h
     case h_2=>cases h
     rename_i p q t t' hargs htypes
     obtain⟨e,he,sz,hs,h⟩:=h
     unfold ztm at h
     split at h
     case h_2=>cases h
     rename_i id v hev
     obtain⟨hver,h⟩:=h
     split at h
     case h_2=>cases h
     rename_i e' sz' xs hh
     obtain⟨⟨rfl,rfl⟩,ys,hsrc,hok,h⟩:=h
     have hargs':c.args=#[p,q]:=by rw[← Array.toList_inj];simpa using hargs
     have htypes':c.argTypes=#[t,t']:=by rw[← Array.toList_inj];simpa using htypes
     have hpv:=hr.ev p
     rw[hev,hver]at hpv
     obtain⟨E',hrun0,hrel⟩:=zhk (t':=t') (ty:=o.type) hr hh hpv (hr.ev q) he hs hsrc hok
     have hrun:(execOp a.eval o).run G.P E.w=.ok (.value (.int .i64 ((min ys.length xs.length:Nat):Int))) E'.w:=by
      simp only[execOp,ho,resolve,hcal,hargs',htypes',invoke,builtin,Sem.run_bind,Sem.run_pure,Result.andThen_ok,List.map_toArray,List.map_cons,List.map_nil,hrun0]
     unfold Oper.wp
     rw[hrun,Oper.upon_value]
     exact⟨_,_,rfl,Rel.put (st:=st.setH id (.arr e' sz' (ys.take xs.length++xs.drop ys.length))) (r:=.v (.int .i64 ((min ys.length xs.length:Nat):Int))) hrel (.v _) hdst,h⟩
   · obtain⟨r,hr1,hk⟩:=h
     exact value hr1 hk
   · rename_i f hcal
     rcases h with h|⟨l,hl,_⟩
     case inr=>exact (hny c f l ho hcal hl).elim
     obtain⟨g,first,captured,hf,h⟩:=h
     obtain⟨⟨fn,hfn,hbody,hname⟩,hcall⟩:=h
     have hvf:=hr.ev f
     rw[hf]at hvf
     generalize hfe:a.eval f=fv at hvf
     cases hvf with
     | fn _ _ _ us vs h1 h2 h3 h4 =>
      have hrun:(execOp a.eval o).run G.P E.w=.ok (.enter g (us++c.args.map a.eval++vs)) E.w:=by
       have hname':¬ fn.name = "runtime.NumGoroutine" := by simpa using hname
       simp[execOp,ho,resolve,hcal,hfe,Deferred.ofValue,invoke,callFunc,hfn,hname']
       cases hb:fn.body with
       | none=>simp[hb]at hbody
       | some _=>simp
      unfold Oper.wp
      rw[hrun,Oper.upon_enter]
      refine (hcall E a (us++c.args.map a.eval++vs) hr (by simp[h1,h2,Nat.add_assoc]) fun i p hp=>?_).mono ?_
      · simp only[List.getElem?_append,List.length_map,Array.length_toList]at hp
        simp only[Array.getD_eq_getD_getElem?,Array.getElem?_append,Array.size_append,Array.size_map]
        by_cases hi1:i < first.length
        · rw[if_pos hi1]at hp
          rw[if_pos (by omega),if_pos (by omega)]
          have:=h3 i p hp
          simpa [Array.getD_eq_getD_getElem?] using this
        · rw[if_neg hi1]at hp
          by_cases hi2:i - first.length < c.args.size
          · rw[if_pos hi2]at hp
            rw[if_pos (by omega),if_neg (by omega)]
            simp only[List.getElem?_map,Option.map_eq_some_iff,Array.getElem?_toList]at hp
            obtain⟨x,hx,rfl⟩:=hp
            have:(Array.map a.eval c.args)[i - us.size]? = some (a.eval x):=by rw[← h1];simp[hx]
            rw[this];exact hr.ev x
          · rw[if_neg hi2]at hp
            rw[if_neg (by omega)]
            have:=h4 _ p hp
            rw[h1]at this
            simpa [Array.getD_eq_getD_getElem?,Nat.sub_sub] using this
      · rintro e w' ⟨v,rfl,st',E',rfl,hrel,hk⟩
        exact⟨st',E',rfl,hrel,hk⟩
   · rename_i p name hcal
     unfold ztu at h
     split at h
     case h_2=>cases h
     rename_i t x hev
     obtain⟨g,hg,h⟩:=h
     obtain⟨⟨fn,hfn,hbody,hname⟩,hcall⟩:=h
     have hpv:=hr.ev p
     rw[hev]at hpv
     generalize hpe:a.eval p=pv at hpv
     cases hpv with
     | iface _ _ v hv =>
      have hrun:(execOp a.eval o).run G.P E.w=.ok (.enter g (#[v]++c.args.map a.eval)) E.w:=by
       have hname':¬ fn.name = "runtime.NumGoroutine" := by simpa using hname
       have hmeth:=yhi hg v E.w (G.P.types.size+(Made.depth - 1))
       have hd:G.P.types.size+(Made.depth - 1)+1=G.P.types.size+Made.depth:=rfl
       rw[hd]at hmeth
       have hex:(#[a.eval p]++c.args.map a.eval).extract 1 (1+c.args.size)=c.args.map a.eval:=by
        apply Array.ext'
        simp
        exact List.take_of_length_le (by simp)
       have h0:(#[a.eval p]++c.args.map a.eval)[0]? = some (a.eval p):=by
        rw[Array.getElem?_append_left (by simp)];rfl
       rw[hpe]at hex h0
       simp[execOp,ho,resolve,hcal,invoke,hpe,callMethod,hmeth,callFunc,hfn,hname',hex,h0]
       cases hb:fn.body with
       | none=>simp[hb]at hbody
       | some _=>simp
      unfold Oper.wp
      rw[hrun,Oper.upon_enter]
      refine (hcall E a (#[v]++c.args.map a.eval) hr (by simp[Nat.add_comm]) fun i q hq=>?_).mono ?_
      · match i,hq with
        | 0,hq =>
         simp at hq;subst hq
         have:(#[v]++c.args.map a.eval).getD 0 undef=v:=by
          rw[Array.getD_eq_getD_getElem?,Array.getElem?_append_left (by simp)];rfl
         rw[this];exact hv
        | i+1,hq =>
         simp only[List.getElem?_cons_succ,List.getElem?_map,Option.map_eq_some_iff,Array.getElem?_toList]at hq
         obtain⟨y,hy,rfl⟩:=hq
         have hlt:i < c.args.size:=(Array.getElem?_eq_some_iff.1 hy).1
         have:(#[v]++c.args.map a.eval).getD (i+1) undef=a.eval y:=by
          rw[Array.getD_eq_getD_getElem?,Array.getElem?_append_right (by simp)]
          simp[hy]
         rw[this];exact hr.ev y
      · rintro e w' ⟨v,rfl,st',E',rfl,hrel,hk⟩
        exact⟨st',E',rfl,hrel,hk⟩
 · rename_i t l c ho
   split at h
   case h_2=>cases h
   rename_i d hdd
   obtain⟨e,he,sz,hs,bytes,hb,z,hz,C,hc,L,hl,⟨hL,hC,hC'⟩,hk⟩:=h
   obtain⟨kl,hl'⟩:=zr3 hl
   obtain⟨kc,hc'⟩:=zr3 hc
   have e1:a.eval l=.int kl (L:Int):=by have:=hr.ev l;rw[hl']at this;exact this.v_inv
   have e2:a.eval c=.int kc (C:Int):=by have:=hr.ev c;rw[hc']at this;exact this.v_inv
   rcases hL with rfl|⟨hLC,hzs,hpos,hone⟩
   case inr =>
    obtain⟨E',h1,hrel,hv⟩:=hr.makeAny he hs hb hz hzs hpos hone hLC hC (by unfold maxLen;omega) (G.ids d) kl kc
    have hrun:(execOp a.eval o).run G.P E.w=.ok (.value (.slice (some ⟨E.w.heap.size,0,none⟩) L C)) E'.w:=by
     simp only[execOp,ho,Sem.run_bind,e1,e2,h1];rfl
    unfold Oper.wp
    rw[hrun,Oper.upon_value,hdd]
    exact⟨_,E',rfl,hrel.put hv (fun d' he=>by cases he;exact hdst _ hdd),hk⟩
   obtain⟨E',h1,hrel,hv⟩:=hr.makeOwn he hs hb (by rw[hz];rfl) hC (by unfold maxLen;omega) (G.ids d) kl kc
   have e1:a.eval l=.int kl 0:=e1
   have hrun:(execOp a.eval o).run G.P E.w=.ok (.value (.slice (some ⟨E.w.heap.size,0,none⟩) 0 C)) E'.w:=by
    simp only[execOp,ho,Sem.run_bind,e1,e2,h1];rfl
   unfold Oper.wp
   rw[hrun,Oper.upon_value,hdd]
   exact⟨_,E',rfl,hrel.put hv (fun d' he=>by cases he;exact hdst _ hdd),hk⟩
 · rename_i t r ho
   split at h
   case h_2=>cases h
   rename_i d hdd
   obtain⟨hm,hh,hk⟩:=h
   obtain⟨⟨kt,et⟩,hm⟩:=Option.isSome_iff_exists.mp hm
   obtain⟨E',hw,hrel,hv⟩:=hr.mapOwn (G.ids d)
   have hrun:(execOp a.eval o).run G.P E.w=.ok (.value (.map (some E.w.heap.size))) (E.w.alloc (.map #[] 0)):=by
    cases r with
    | none=>simp[execOp,ho,Instr.makeMap,newObj];rfl
    | some x =>
     obtain⟨k,n,hx⟩:=hh
     have hx':a.eval x=.int k n:=by have:=hr.ev x;rw[hx]at this;exact this.v_inv
     simp[execOp,ho,Instr.makeMap,run_underlying (ynq hm),hx',asInt,newObj];rfl
   unfold Oper.wp
   rw[hrun,Oper.upon_value,hdd]
   exact⟨_,E',hw,hrel.put hv (fun d' he=>by cases he;exact hdst _ hdd),hk⟩
 · rename_i t m k ho
   obtain⟨⟨kt,et⟩,hm,hki,h⟩:=h
   rcases zt3 h with ⟨id,mm,hev,hh,h⟩|h
   case inr=>cases h
   unfold ztz at h
   split at h
   case h_2=>cases h
   rename_i n hek
   obtain⟨z,hz,h⟩:=h
   have hmv:=hr.ev m
   rw[hev]at hmv
   have hkv:a.eval k=.int .i64 n:=by have:=hr.ev k;rw[hek]at this;exact this.v_inv
   have hb:=hr.blocks id
   rw[hh]at hb
   obtain⟨es,clk,g1,g2,g3,g4,g5,g6⟩:=hb
   have hmm:a.eval m=.map (some (E.own id).blk):=by
    generalize hgm:a.eval m=y at hmv
    cases hmv with
    | ref _ _ _ h1 h2=>rw[h2 (by rw[hr.ver])];exact g2
   have hval:VR E ((mm.f n).getD (.v z)) ((mget es n).getD z):=by
    have hs:=g5.2.1 n
    cases h1:mm.f n with
    | none =>
     rw[h1]at hs
     have h2:mget es n=none:=by cases h3:mget es n with|none=>rfl|some x=>rw[h3]at hs;cases hs
     rw[h2];exact .v _
    | some p =>
     rw[h1]at hs
     obtain⟨v,h2⟩:=Option.isSome_iff_exists.1 (by rw[← hs];rfl)
     rw[h2]
     exact g5.2.2 n p v h1 h2
   have hrel:=hr.amapSet hh n hval clk es g1
   have hrun:(execOp a.eval o).run G.P E.w=.ok (.value (.tuple #[(mget es n).getD z,.int .i64 (yka es clk n)])) (E.w.putObj (E.own id).blk (.map (mput es clk n ((mget es n).getD z)).1 (mput es clk n ((mget es n).getD z)).2)):=by
    simp only[execOp,ho,Sem.run_bind,hmm,hkv,yhf (ynq hm) (ynp hki) g1 g5.1 n (yhr hz)];rfl
   unfold Oper.wp
   rw[hrun,Oper.upon_value]
   have hle:E.Le { E with w:=E.w.putObj (E.own id).blk (.map (mput es clk n ((mget es n).getD z)).1 (mput es clk n ((mget es n).getD z)).2) } :=
    ⟨fun _ h=>h,fun b hb=>World.putObj_heap_other (fun he=>g4 (he ▸ hb)),fun _=>Nat.le_refl _,fun _ _=>rfl⟩
   refine⟨_,_,rfl,Rel.put (st:=st.setH id (.amap (mm.put n ((mm.f n).getD (.v z))))) hrel ?_ hdst,h⟩
   rw[ykb g6 g5.2.1 n]
   refine .tup _ #[(mget es n).getD z,.int .i64 (mm.stamp n)] rfl fun i c hc=>?_
   match i,hc with
   | 0,hc=>cases hc;exact hval.mono hle
   | 1,hc=>cases hc;exact .v _
 · rename_i t m s x ho
   rcases zt3 h with ⟨id,mm,hev,hh,h⟩|h
   case inr=>cases h
   unfold ztz at h
   split at h
   case h_2=>cases h
   rename_i b hek
   obtain⟨n,hn,hbn,h⟩:=h
   have hmv:=hr.ev m
   rw[hev]at hmv
   have hkv:a.eval s=.int .i64 (mm.b n:Int):=by have:=hr.ev s;rw[hek,← hbn]at this;exact this.v_inv
   have hb:=hr.blocks id
   rw[hh]at hb
   obtain⟨es,clk,g1,g2,g3,g4,g5,g6⟩:=hb
   have hmm:a.eval m=.map (some (E.own id).blk):=by
    generalize hgm:a.eval m=y at hmv
    cases hmv with
    | ref _ _ _ h1 h2=>rw[h2 (by rw[hr.ver])];exact g2
   have hrel:=hr.amapSet hh n (hr.ev x) clk es g1
   have hrun:(execOp a.eval o).run G.P E.w=.ok .skip (E.w.putObj (E.own id).blk (.map (mput es clk n (a.eval x)).1 (mput es clk n (a.eval x)).2)):=by
    simp only[execOp,ho,Sem.run_bind,hmm,hkv,yg9 g1 g6 (by rw[← g5.2.1 n];exact hn) (a.eval x)];rfl
   unfold Oper.wp
   rw[hrun,Oper.upon_skip]
   exact⟨_,_,rfl,Rel.put (st:=st.setH id (.amap (mm.put n (st.ev x)))) hrel (.junk _) hdst,h⟩
 · rename_i t m k x ho
   obtain⟨⟨kt,et⟩,hm,h⟩:=h
   unfold zt0 at h
   split at h
   · rename_i q hkq
     obtain⟨hok,h⟩:=h
     unfold onMap at h
     split at h
     case h_2=>cases h
     rename_i id v hev
     obtain⟨hver,h⟩:=h
     split at h
     case h_2=>cases h
     rename_i es clk hh
     obtain⟨hq,h⟩:=h
     unfold onVal at h
     split at h
     case h_2=>cases h
     rename_i z hez
     have hmv:=hr.ev m
     rw[hev]at hmv
     have hkv:a.eval k=q.val:=zpd (hr.ev k) hkq
     have hxv:a.eval x=z:=by have:=hr.ev x;rw[hez]at this;exact this.v_inv
     have hb:=hr.blocks id
     rw[hh]at hb
     obtain⟨g1,g2,_⟩:=hb
     have hmm:a.eval m=.map (some (E.own id).blk):=by
      generalize hgm:a.eval m=y at hmv
      cases hmv with
      | ref _ _ _ h1 h2=>rw[h2 (by rw[hr.ver];exact hver)];exact g2
     have hrel:=hr.mapSet hh (qput es clk q z).1 (qput es clk q z).2
     have hrun:(execOp a.eval o).run G.P E.w=.ok .skip (E.w.putObj (E.own id).blk (.map (qput es clk q z).1 (qput es clk q z).2)):=by
      simp only[execOp,ho,Sem.run_bind,hmm,hkv,hxv,yhg (ynq hm) hok g1 hq z];rfl
     unfold Oper.wp
     rw[hrun,Oper.upon_skip]
     exact⟨_,_,rfl,Rel.put (st:=st.setH id (.map (qput es clk q z).1 (qput es clk q z).2)) hrel (.junk _) hdst,h⟩
   obtain⟨hki,h⟩:=h
   rcases zt3 h with ⟨id,mm,hev,hh,h⟩|h
   · unfold ztz at h
     split at h
     case h_2=>cases h
     rename_i n hek
     have hmv:=hr.ev m
     rw[hev]at hmv
     have hkv:a.eval k=.int .i64 n:=by have:=hr.ev k;rw[hek]at this;exact this.v_inv
     have hb:=hr.blocks id
     rw[hh]at hb
     obtain⟨es,clk,g1,g2,g3,g4,g5,g6⟩:=hb
     have hmm:a.eval m=.map (some (E.own id).blk):=by
      generalize hgm:a.eval m=y at hmv
      cases hmv with
      | ref _ _ _ h1 h2=>rw[h2 (by rw[hr.ver])];exact g2
     have hlt:=(Array.getElem?_eq_some_iff.1 g1).1
     have hrel:=hr.amapSet hh n (hr.ev x) clk es g1
     have hrun:(execOp a.eval o).run G.P E.w=.ok .skip (E.w.putObj (E.own id).blk (.map (mput es clk n (a.eval x)).1 (mput es clk n (a.eval x)).2)):=by
      simp only[execOp,ho,Sem.run_bind,hmm,hkv,yhh (ynq hm) (ynp hki) g1 g5.1 n (a.eval x)];rfl
     unfold Oper.wp
     rw[hrun,Oper.upon_skip]
     exact⟨_,_,rfl,Rel.put (st:=st.setH id (.amap (mm.put n (st.ev x)))) hrel (.junk _) hdst,h⟩
   unfold onMap at h
   split at h
   case h_2=>cases h
   rename_i id v hev
   obtain⟨hver,h⟩:=h
   split at h
   case h_2=>cases h
   rename_i es clk hh
   obtain⟨hint,h⟩:=h
   unfold onKey at h
   split at h
   case h_2=>cases h
   rename_i n z hek hez
   have hmv:=hr.ev m
   rw[hev]at hmv
   have hkv:a.eval k=.int .i64 n:=by have:=hr.ev k;rw[hek]at this;exact this.v_inv
   have hxv:a.eval x=z:=by have:=hr.ev x;rw[hez]at this;exact this.v_inv
   have hb:=hr.blocks id
   rw[hh]at hb
   obtain⟨g1,g2,_⟩:=hb
   have hmm:a.eval m=.map (some (E.own id).blk):=by
    generalize hgm:a.eval m=y at hmv
    cases hmv with
    | ref _ _ _ h1 h2=>rw[h2 (by rw[hr.ver];exact hver)];exact g2
   have hrel:=hr.mapSet hh (mput es clk n z).1 (mput es clk n z).2
   have hrun:(execOp a.eval o).run G.P E.w=.ok .skip (E.w.putObj (E.own id).blk (.map (mput es clk n z).1 (mput es clk n z).2)):=by
    simp only[execOp,ho,Sem.run_bind,hmm,hkv,hxv,yhh (ynq hm) (ynp hki) g1 hint n z];rfl
   unfold Oper.wp
   rw[hrun,Oper.upon_skip]
   exact⟨_,_,rfl,Rel.put (st:=st.setH id (.map (mput es clk n z).1 (mput es clk n z).2)) hrel (.junk _) hdst,h⟩
 · rename_i t x lo hi mx ho
   unfold zub at h
   split at h
   · rename_i id k i j hev
     obtain⟨r,h1,hk⟩:=h
     have hrf:=hr.freeze id
     have h1':evalV G.P (st.freeze id) o.op=some r:=by rw[ho];exact h1
     obtain⟨z,h3,h4⟩:=zi9 hrf h1'
     have h3':(execOp a.eval o).run G.P E.w=.ok (.value z) E.w:=h3
     unfold Oper.wp
     rw[h3',Oper.upon_value]
     exact⟨_,E.fz st id,rfl,hrf.put h4 hdst,hk⟩
   · obtain⟨r,hr1,hk⟩:=h
     exact value (by rw[ho];exact hr1) hk
 · rename_i t x ho
   split at h
   case h_2=>cases h
   rename_i d hdd
   obtain⟨hm,h⟩:=h
   obtain⟨⟨kt,et⟩,hm⟩:=Option.isSome_iff_exists.mp hm
   have fin:∀ (st:St) (E:Env) (hr:Rel G st E a) (es:Array MapEntry) (clk:Nat) (xv:Value) (hgx:a.eval x=xv) (hxv:VR E (.mapv es clk) xv) (hok:mapOK es clk) (hk:K ((st.setIter (G.ids d) es clk []).put (some d) (.rptr (G.ids d) (st.ver (G.ids d)+1) 0 0))),
    o.wp G.P a E.w (fun a' w'=>∃ st' E',E'.w=w'∧Rel G st' E' a'∧K st') Q:=by
    intro st E hr es clk xv hgx hxv hok hk
    cases hxv with
    | mapv _ _ b hS hb =>
     obtain⟨E',hw,hrel,hv⟩:=hr.iterOwn hS hb hok (G.ids d)
     have hrun:(execOp a.eval o).run G.P E.w=.ok (.value (.pointer (some ⟨E.w.heap.size,0,none⟩))) E'.w:=by
      simp[execOp,ho,hgx,run_range_map E.w t kt et b es clk (ynq hm) hb,hw]
     unfold Oper.wp
     rw[hrun,Oper.upon_value,hdd]
     exact⟨_,E',rfl,hrel.put hv (fun d' he=>by cases he;exact hdst _ hdd),hk⟩
   unfold zt5 at h
   split at h
   · rename_i es clk hev
     obtain⟨hok,hk⟩:=h
     have hxv:=hr.ev x
     rw[hev]at hxv
     exact fin st E hr es clk _ rfl hxv hok hk
   · rename_i id k hev
     obtain⟨hver,h⟩:=h
     split at h
     case h_2=>cases h
     rename_i es clk hh
     obtain⟨hok,hk⟩:=h
     have hrf:=hr.freeze id
     have hxv:=zmr hr (id:=id) (hr.ev x)
     rw[hev]at hxv
     have hfz:fz st id (.ref id k)=.mapv es clk:=by
      show fz0 st id (.ref id k)=_
      simp[fz0,hver,hh]
     rw[hfz]at hxv
     exact fin (st.freeze id) (E.fz st id) hrf es clk _ rfl hxv hok hk
   · cases h
 · rename_i x bb ho
   obtain⟨rfl,h⟩:=h
   obtain⟨id,es,clk,done,hev,hh,hk0,hk1⟩:=zty h
   have hxv:=hr.ev x
   rw[hev]at hxv
   have hxp:a.eval x=.pointer (some ⟨(E.own id).blk,0,none⟩):=by
    have hb:=hr.blocks id
    rw[hh]at hb
    obtain⟨_,_,_,_,_,_,_,_,hsz⟩:=hb
    generalize a.eval x=xv at hxv
    cases hxv with
    | rptr _ _ _ _ _ h1 h2=>rw[h2 (by rw[hr.ver])];simp
   rcases hr.iterNext hh o.type with ⟨hall,h1⟩|⟨e,he,hnew,w',h1,hrel⟩
   · have hrun:(execOp a.eval o).run G.P E.w=.ok (.value (.tuple #[.bool false])) E.w:=by
      simp[execOp,ho,hxp,h1]
     unfold Oper.wp
     rw[hrun,Oper.upon_value]
     exact⟨_,E,rfl,hr.put (.tup _ _ rfl (fun i c hc=>by
      match i,hc with
      | 0,hc=>cases hc;exact .v _)) hdst,hk0 hall⟩
   · have hrun:(execOp a.eval o).run G.P E.w=.ok (.value (.tuple #[.bool true,e.key,e.val])) w':=by
      simp[execOp,ho,hxp,h1]
     unfold Oper.wp
     rw[hrun,Oper.upon_value]
     exact⟨_,_,rfl,hrel.put (.tup _ _ rfl (fun i c hc=>by
      match i,hc with
      | 0,hc=>cases hc;exact .v _
      | 1,hc=>cases hc;exact .v _
      | 2,hc=>cases hc;exact .v _)) hdst,hk1 e he hnew⟩
 · rename_i x ho
   obtain⟨id,es,clk,done,hev,hh,e,hl,hk⟩:=zty h
   have hxv:=hr.ev x
   rw[hev]at hxv
   have hb:=hr.blocks id
   rw[hh]at hb
   obtain⟨b,hS,hm,hit,_,_,hok,hin,hsz⟩:=hb
   have hxp:a.eval x=.pointer (some ⟨(E.own id).blk,0,none⟩):=by
    generalize a.eval x=xv at hxv
    cases hxv with
    | rptr _ _ _ _ _ h1 h2=>rw[h2 (by rw[hr.ver])];simp
   obtain⟨done',rfl⟩:∃ done',done=done'++[e]:=by
    obtain⟨ys,hys⟩:=List.getLast?_eq_some_iff.1 hl
    exact⟨ys,hys⟩
   have hit':E.w.heap[(E.own id).blk]? = some (.mapIter (some b) clk ((done'.map (·.born)).toArray.push e.born) clk):=by
    rw[hit];simp
   have h1:=run_entry_at (P:=G.P) E.w (E.own id).blk b clk _ es clk e hit' hm (hin e (by simp)) hok.2
   have hrun:(execOp a.eval o).run G.P E.w=.ok (.value (.tuple #[e.key,e.val])) E.w:=by
    simp[execOp,ho,hxp,h1]
   unfold Oper.wp
   rw[hrun,Oper.upon_value]
   exact⟨_,E,rfl,hr.put (.tup _ _ rfl (fun i c hc=>by
    match i,hc with
    | 0,hc=>cases hc;exact .v _
    | 1,hc=>cases hc;exact .v _)) hdst,hk⟩
 · rename_i t d x ho
   unfold zuc at h
   split at h
   · rename_i b hc hev
     obtain⟨⟨hs,hn⟩,hk⟩:=h
     obtain⟨z,E',h1,hrel,hv⟩:=zhi hr hs hc hn
     have hxs:a.eval x=.string b:=by have:=hr.ev x;rw[hev]at this;exact this.v_inv
     have hrun:(execOp a.eval o).run G.P E.w=.ok (.value z) E'.w:=by
      simp[execOp,ho,hxs,h1]
     unfold Oper.wp
     rw[hrun,Oper.upon_value]
     exact⟨_,E',rfl,hrel.put hv hdst,hk⟩
   · obtain⟨r,hr1,hk⟩:=h
     exact value (by rw[ho];exact hr1) hk
 · obtain⟨r,hr1,hk⟩:=h
   exact value hr1 hk
theorem zg2 {P:Program} {m m':Machine} {e:Ending} (h:Comes P m m' e):ComesIn (Machine.fenced P G.F) P m m' e:=comesIn_wide.2 h
theorem zf0 {n:Nat} {P:Program} {f:FuncId} {args:Array Value} {w:World} {R:Ending→World→Prop} (h:Calls P f args w R):CallsIn G.F n P f args w R :=
 ⟨trivial,fun cs _=>let ⟨e,w',fr,r,s,x⟩:=h cs;⟨e,w',fr,r,zg2 s,x⟩⟩
theorem rowsIn_F {n:Nat} {P:Program} {row:String} {args:Array Value} {w:World} {R:Value→World→Prop} (h:Rows P row args w R):RowsIn G.F n P row args w R :=
 fun c cs _=>let ⟨v,w',r,s⟩:=h c cs;⟨v,w',r,stepsIn_wide.2 s⟩
theorem Oper.wpIn_of_wp {o:Oper} {w:World} {K:Act→World→Prop} {Q:Exit→Act→World→Prop} (hnd:∀ c,o.op≠.defer c) (h:o.wp G.P a w K Q):o.wpIn G.F 0 G.P a w K Q:=by
 refine⟨fun _ _=>trivial,?_⟩
 have e:o.semAt G.F.round a.eval=execOp a.eval o:=by
  unfold Oper.semAt
  split
  · rename_i hop;exact (hnd _ hop).elim
  · rfl
 rw[e]
 unfold Oper.wp at h
 generalize (execOp a.eval o).run G.P w=res at h
 cases res with
 | ok nx w' =>
  cases nx<;>first|exact h|exact h.elim|exact⟨fun h=>(by cases h),zf0 h⟩|exact⟨fun h=>(by cases h),rowsIn_F h⟩
 | halt hl w'=>cases hl<;>first|exact h|exact h.elim
theorem ypz {own:List Nat} {o:Oper} {K:St→Prop} (h:vcOp G own K o st):∀ c,o.op≠.defer c:=by
 intro c hc
 unfold vcOp at h
 simp only[hc]at h
 obtain⟨r,hr,_⟩:=h
 cases hr
theorem yp0 (own:List Nat) {o:Oper} {K:St→Prop} (hd:dstOK G.n o.dst) (hr:Rel G st E a) (h:vcOp G own K o st) {Q:Exit→Act→World→Prop} :
 o.wpIn G.F 0 G.P a E.w (fun a' w'=>∃ st' E',E'.w=w'∧Rel G st' E' a'∧K st') Q:=by
 by_cases hny:∀ c f l,o.op=.call c→c.callee=.value f→st.ev f≠.v (.func (.yield l) #[] #[])
 · exact Oper.wpIn_of_wp (ypz h) (yp1 own hny hd hr h)
 · have hy:∃ c f l,o.op=.call c∧c.callee=.value f∧st.ev f=.v (.func (.yield l) #[] #[]) :=
    Classical.byContradiction fun hn=>hny fun c f l h1 h2 h3=>hn ⟨c,f,l,h1,h2,h3⟩
   obtain⟨c,f,l,ho,hcal,hf⟩:=hy
   have h':=h
   unfold vcOp at h'
   simp only[ho,hcal,hf,ztq]at h'
   have hfe:a.eval f=.func (.yield l) #[] #[]:=by have:=hr.ev f;rw[hf]at this;exact this.v_inv
   obtain⟨fn,tmps,assign,body,h1,h2⟩:=h' E a (c.args.map a.eval) hr (by simp) fun i p hp=>by
    simp only[List.getElem?_map,Option.map_eq_some_iff,Array.getElem?_toList]at hp
    obtain⟨x,hx,rfl⟩:=hp
    simp only[Array.getD_eq_getD_getElem?,Array.getElem?_map,hx,Option.map_some,Option.getD_some]
    exact hr.ev x
   refine⟨fun _ _=>trivial,?_⟩
   have e:o.semAt G.F.round a.eval=execOp a.eval o:=by
    unfold Oper.semAt
    split
    · rename_i hop;rw[ho]at hop;cases hop
    · rfl
   rw[e]
   have hrun:(execOp a.eval o).run G.P E.w=.ok (.round l fn tmps assign body) E.w:=by
    simp[execOp,ho,resolve,hcal,hfe,Deferred.ofValue,invoke,h1]
   rw[hrun,Oper.uponIn_round]
   refine⟨fun h=>(by cases h),h2.mono ?_⟩
   rintro e w' ⟨v,rfl,st',E',rfl,hrel,hk⟩
   exact⟨st',E',rfl,hrel,hk⟩
theorem zm9 {ops:Array Oper} {j:Nat} {t:Tmp} {want b:Bool} (hr:Rel G st E a) (ht:zm7 ops j=some t) (h:zm8 (st.σ t) want=some b):(yielded ops a.tmps j==some want)=b:=by
 have hs:=hr.slots t
 unfold zm7 at ht
 unfold yielded
 rw[ht]
 simp only[Array.getD_eq_getD_getElem?]at hs
 unfold zm8 at h
 split at h
 · rename_i x hx
   rw[hx]at hs
   have hvv:=hs.v_inv
   cases h
   cases htt:a.tmps[t]? with
   | none=>simp[htt,undef]at hvv
   | some y=>simp[htt]at hvv;subst hvv;simp[htt]
 · rename_i us hx
   rw[hx]at hs
   have hvv:=hs.v_inv
   cases h
   cases htt:a.tmps[t]? with
   | none=>simp[htt]
   | some y=>simp[htt]at hvv;subst hvv;simp[htt]
 · cases h
theorem yp2 (own:List Nat) {ops:Array Oper} {Q:St→Prop} {Q':Exit→Act→World→Prop}:∀ (l:List Oper) (st:St) (E:Env) (a:Act),Rel G st E a→vcOps G own ops Q l st→(∀ st' E' a',Rel G st' E' a'→Q st'→Q' .normal a' E'.w) →
 wpListIn G.F 0 G.P ops Q' l a E.w
 | [],st,E,a,hr,h,hq=>hq st E a hr h
 | o::rest,st,E,a,hr,h,hq=>by
  obtain⟨hd,h⟩:=h
  have ih:=yp2 own (ops:=ops) (Q:=Q) (Q':=Q') rest
  have go:vcOp G own (vcOps G own ops Q rest) o st→o.wpIn G.F 0 G.P a E.w (wpListIn G.F 0 G.P ops Q' rest) Q':=fun hv =>
   Oper.wpIn_mono (fun a' w' ⟨st',E',hw,hrel,hk⟩=>by subst hw;exact ih st' E' a' hrel hk hq) (yp0 own hd hr hv)
  unfold wpListIn
  unfold Region.wanted
  split at h
  · rename_i hg
    simp only[hg,if_true]
    exact go h
  · rename_i j want hg
    simp only[hg]
    split at h
    · rename_i t ht
      · obtain⟨b,hb,h⟩:=h
        rw[zm9 hr ht hb]
        cases b with
        | true =>
         simp only[if_true]at h ⊢
         exact go h
        | false =>
         simp only[Bool.false_eq_true,if_false]at h ⊢
         exact⟨fun _ _=>trivial,ih _ E _ (hr.put (.v undef) (fun d he=>by rw[he]at hd;exact hd)) h hq⟩
    · cases h
theorem AWp.region {id:Nat} {ops:Array Oper} {Q:Exit→St→Prop} (own:List Nat) (h:vcOps G own ops (Q .normal) ops.toList st):AWp G (.region id ops false) Q st:=fun E a hr =>
 wpIn_region_list (yp2 own ops.toList st E a hr h fun st' E' _ hr' hq=>⟨st',E',rfl,hr',hq⟩)
theorem CallSem.pure {g:FuncId} {args:List AV} {dst:Option Tmp} {K:St→Prop} {r:AV} (hac:AC G.P g args r) (hd:dstOK G.n dst) (hk:K ((st.take (G.ids (dst.getD 0)) r).1.put dst (st.take (G.ids (dst.getD 0)) r).2)):CallSem G g args dst K st:=by
 refine⟨hac.fn,fun E a vs hr hl hv=>?_⟩
 refine (hac.run E.S E.w vs hr.Slt hl fun i p hp=>(hac.pargs p (List.mem_of_getElem? hp)).to0 (hv i p hp)).mono ?_
 rintro e w' ⟨v,S',rfl,hb,h1,h2,h3,h4⟩
 obtain⟨hrel,hle⟩:=hr.afterCall hb h1 h2 h3
 obtain⟨E',hw,_,hrel',hv'⟩:=hrel.take (B:=E.w.heap.size) hr.below.size hac.pres h4 (fun j b hb=>((hr.blocks j).at_lt hb).2.1) (G.ids (dst.getD 0))
 exact⟨v,rfl,_,E',hw,hrel'.put hv' (fun d he=>by rw[he]at hd;exact hd),hk⟩
theorem cpu {g:FuncId} {args:List AV} {dst:Option Tmp} {K:St→Prop} {r:AV} (hac:AC G.P g args r) (hk:K ((st.take (G.ids (dst.getD 0)) r).1.put dst (st.take (G.ids (dst.getD 0)) r).2)) (hd:dstOK G.n dst:=by simp[go_sem]):CallSem G g args dst K st:=.pure hac hd hk
theorem RR1.flat {E E':Env} {base:Nat} {r:AV} {x:Value} (hf:zah r) (hw:E'.w=E.w) (hS:∀ b,E'.S b→E.S b) (h:RR1 E base r x):RR1 E' base r x:=by
 cases r with
 | fresh e sz xs =>
  obtain⟨us,h1,h2,h3,h4⟩:=h
  refine⟨us,by rw[hw];exact h1,h2,⟨h3.1,fun i c u hc hu=>?_⟩,fun b hb hS'=>h4 b hb (hS b hS')⟩
  obtain⟨y,hy,hm⟩:=List.mem_flatMap.1 (List.mem_of_getElem? hc)
  exact hf y hy c hm _ _ _ (h3.2 i c u hc hu)
 | _=>exact hf _ _ _ h
theorem RR.flat {E E':Env} {base:Nat} {r:AV} {x:Value} (hf:FlatR r) (hw:E'.w=E.w) (hS:∀ b,E'.S b→E.S b) (h:RR E base r x):RR E' base r x:=by
 by_cases ht:∃ rs,r=.tup rs
 · obtain⟨rs,rfl⟩:=ht
   obtain⟨us,h1,h2,h3,h4⟩:=h
   exact⟨us,h1,h2,fun i r hi=>(h3 i r hi).flat (hf r (List.mem_of_getElem? hi)) hw hS,h4⟩
 · have e1:∀ E,RR E base r x=RR1 E base r x:=fun E=>by cases r<;>first|rfl|exact absurd ⟨_,rfl⟩ ht
   have e2:FlatR r=zah r:=by cases r<;>first|rfl|exact absurd ⟨_,rfl⟩ ht
   rw[e1]at h ⊢
   rw[e2]at hf
   exact h.flat hf hw hS
theorem CallSem.lent {g:FuncId} {args:List AV} {dst:Option Tmp} {K:St→Prop} {r:AV} (hac:AC G.P g (args.map (ze9 st)) r) (hflat:FlatR r) (hd:dstOK G.n dst) (hk:K ((st.take (G.ids (dst.getD 0)) r).1.put dst (st.take (G.ids (dst.getD 0)) r).2)) :
 CallSem G g args dst K st:=by
 refine⟨hac.fn,fun E a vs hr hl hv=>?_⟩
 refine (hac.run E.all.S E.w vs (fun _ h=>h) (by simpa using hl) fun i p hp=>?_).mono ?_
 · have hpure:=hac.pargs p (List.mem_of_getElem? hp)
   simp only[List.getElem?_map,Option.map_eq_some_iff]at hp
   obtain⟨q,hq,rfl⟩:=hp
   exact hpure.to0 (zff hr (hv i q hq))
 · rintro e w' ⟨v,S',rfl,hb,h1,h2,h3,h4⟩
   obtain⟨hrel,hle⟩:=hr.afterCall (S':=E.S) hb (fun _ h=>h) (fun _ h=>.inl h) fun b h=>Nat.lt_of_lt_of_le (hr.Slt b h) hb.size
   have h4':RR (env0 E.S w') E.w.heap.size r v:=RR.flat (E:=env0 S' w') (E':=env0 E.S w') hflat rfl (fun b h=>h1 b (hr.Slt b h)) h4
   obtain⟨E',hw,_,hrel',hv'⟩:=hrel.take (B:=E.w.heap.size) hr.below.size hac.pres h4' (fun j b hb=>((hr.blocks j).at_lt hb).2.1) (G.ids (dst.getD 0))
   exact⟨v,rfl,_,E',hw,hrel'.put hv' (fun d he=>by rw[he]at hd;exact hd),hk⟩
theorem CallSem.wk {g:FuncId} {args args':List AV} {dst:Option Tmp} {K:St→Prop} (hw:WkL args args') (h:CallSem G g args' dst K st):CallSem G g args dst K st:=by
 obtain⟨h1,h2⟩:=hw.get
 refine⟨h.1,fun E a vs hr hl hv=>h.2 E a vs hr (by rw[← h1];exact hl) fun i q hi=>?_⟩
 have hlt:i < args.length:=by rw[h1];exact (List.getElem?_eq_some_iff.1 hi).1
 have hp:=List.getElem?_eq_getElem hlt
 exact (h2 i _ _ hp hi).sound (hv i _ hp)
theorem CallSem.freeze (id:Nat) {g:FuncId} {args:List AV} {dst:Option Tmp} {K:St→Prop} (h:CallSem G g (args.map (fz st id)) dst K (st.freeze id)):CallSem G g args dst K st:=by
 refine⟨h.1,fun E a vs hr hl hv=>h.2 (E.fz st id) a vs (hr.freeze id) (by simpa using hl) fun i p hi=>?_⟩
 simp only[List.getElem?_map,Option.map_eq_some_iff]at hi
 obtain⟨q,hq,rfl⟩:=hi
 exact zmr hr (hv i q hq)
theorem CallSem.by {g:FuncId} {args args':List AV} {dst:Option Tmp} {K:St→Prop} {r:AV} (hac:AC G.P g args' r) (hw:WkL args args') (hd:dstOK G.n dst) (hk:K ((st.take (G.ids (dst.getD 0)) r).1.put dst (st.take (G.ids (dst.getD 0)) r).2)):CallSem G g args dst K st :=
 .wk hw (.pure hac hd hk)
end
end Go.Abs
