/- Several texts of the proof in one: Fn. No condition. -/
import Derived.Test.YthjmjdleecmaeaaGreatL09
set_option linter.unusedSimpArgs false
set_option linter.unusedVariables false
set_option maxHeartbeats 4000000
set_option maxRecDepth 8000
namespace Go.Abs
open Go Go.RowKit
def dj (X:List Nat):AV→Bool
 | .ref i _=>!(X.contains i)
 | .rptr i _ _ _=>!(X.contains i)
 | .osl i _ _ _ _=>!(X.contains i)
 | _=>true
def zv6:AV→Bool
 | .v _|.lst ..|.eptr ..|.mapv ..|.full ..|.amapv ..=>true
 | _=>false
def zv7:AV→Bool
 | .agg cs=>cs.all zv6
 | p=>zv6 p
def lateB (X Y:List Nat) (st:St) (o:Oper):Bool :=
 match o.op with
 | .move _|.assign _|.pick ..|.binOp ..|.unOp ..|.convert ..|.extract ..|.makeFunc ..|.field ..|.index ..=>true
 | .nilCheck x=>dj X (st.ev x)
 | .fieldAddr _ x _=>dj X (st.ev x)
 | .indexAddr _ x _=>dj X (st.ev x)
 | .load _ x=>dj (X++Y) (st.ev x)
 | .slice _ x _ _ _=>zv6 (st.ev x)
 | .build _ parts=>parts.toList.all fun p=>(st.ev p.2).cells.all (dj X)
 | .buildSlice _ _ parts=>parts.toList.all fun p=>(st.ev p.2).cells.all (dj X)
 | .box _ x=>(st.ev x).cells.all (dj X)
 | .call c=>match c.callee with
  | .builtin .len=>c.args.toList.all fun x=>dj X (st.ev x)
  | .value f=>(match st.ev f with
   | .fn _ a b=>a.all zv7&&b.all zv7
   | _=>false)&&c.args.toList.all fun x=>zv7 (st.ev x)
  | _=>false
 | _=>false
def Shape:Blk→Blk→Prop
 | .arr e sz xs,b=>∃ ys,b=.arr e sz ys∧ys.length=xs.length
 | .box _,b=>∃ cs,b=.box cs
 | a,b=>b=a
theorem Shape.refl (b:Blk):Shape b b:=by cases b<;>first|exact⟨_,rfl,rfl⟩|exact⟨_,rfl⟩|rfl
theorem Shape.symm {a b:Blk} (h:Shape a b):Shape b a:=by
 cases a with
 | arr e sz xs=>obtain⟨ys,rfl,h⟩:=h;exact⟨xs,rfl,h.symm⟩
 | box cs=>obtain⟨cs',rfl⟩:=h;exact⟨cs,rfl⟩
 | _=>cases h;rfl
def Agree (X Y:List Nat) (st st':St):Prop:=∀ id,id∉X→st'.ver id=st.ver id∧Shape (st.h id) (st'.h id)∧(id∉Y→st'.h id=st.h id)
theorem Agree.symm {X Y:List Nat} {st st':St} (h:Agree X Y st st'):Agree X Y st' st:=fun id hi=>⟨(h id hi).1.symm,(h id hi).2.1.symm,fun hy=>((h id hi).2.2 hy).symm⟩
section
variable {G:Ctx} {st:St} {X Y:List Nat} {ver':Nat→Nat} {h':Nat→Blk}
theorem zif {i:Nat} (h:(!(X.contains i))=true):i∉X:=by simpa using h
theorem ztf (ha:Agree X Y st ⟨st.σ,ver',h'⟩) (p:AV) (hd:dj X p=true):zte ⟨st.σ,ver',h'⟩ p=zte st p:=by
 cases p with
 | ref i k =>
  obtain⟨h1,h2,_⟩:=ha i (zif hd)
  simp only at h1 h2
  simp only[zte,h1]
  congr 1
  cases hh:st.h i with
  | arr e sz xs=>rw[hh]at h2;obtain⟨ys,h3,_⟩:=h2;rw[h3]
  | box cs=>rw[hh]at h2;obtain⟨ys,h3⟩:=h2;rw[h3]
  | none=>rw[hh]at h2;rw[show h' i=_ from h2]
  | map _ _=>rw[hh]at h2;rw[show h' i=_ from h2]
  | obj _=>rw[hh]at h2;rw[show h' i=_ from h2]
  | iter _ _ _=>rw[hh]at h2;rw[show h' i=_ from h2]
  | amap _=>rw[hh]at h2;rw[show h' i=_ from h2]
 | rptr i k n j =>
  obtain⟨h1,_,_⟩:=ha i (zif hd)
  simp only at h1
  simp only[zte,h1]
 | _=>rfl
theorem zti (ha:Agree X Y st ⟨st.σ,ver',h'⟩) (p:AV) (hd:p.cells.all (dj X)=true):zth ⟨st.σ,ver',h'⟩ p=zth st p:=by
 unfold zth
 rw[Bool.eq_iff_iff,List.all_eq_true,List.all_eq_true]
 rw[List.all_eq_true]at hd
 exact⟨fun h c hc=>by rw[← ztf ha c (hd c hc)];exact h c hc,fun h c hc=>by rw[ztf ha c (hd c hc)];exact h c hc⟩
theorem zvw (ha:Agree X Y st ⟨st.σ,ver',h'⟩) (parts:Array (Nat×Operand)) (hd:(parts.toList.all fun p=>(st.ev p.2).cells.all (dj X))=true) (f:AV→Bool) :
 ((zi6 st parts).all fun x=>zth ⟨st.σ,ver',h'⟩ x.2&&f x.2)=((zi6 st parts).all fun x=>zth st x.2&&f x.2):=by
 unfold zi6
 rw[Bool.eq_iff_iff,List.all_eq_true,List.all_eq_true]
 rw[List.all_eq_true]at hd
 constructor
 · intro h x hx
   obtain⟨p,hp,rfl⟩:=List.mem_map.1 hx
   have:=h _ hx
   rwa [zti ha _ (hd p hp)]at this
 · intro h x hx
   obtain⟨p,hp,rfl⟩:=List.mem_map.1 hx
   have:=h _ hx
   rwa [zti ha _ (hd p hp)]
theorem zfe (st st':St) (p:AV) (h:zv7 p=true):ze9 st p=ze9 st' p:=by
 have h0:∀ q,zv6 q=true→zfa st q=zfa st' q:=fun q hq=>by cases q<;>first|rfl|cases hq
 have h1:∀ q,zv6 q=true→zfc st q=zfc st' q:=fun q hq=>by cases q<;>first|rfl|cases hq
 cases p with
 | agg cs=>rfl
 | _=>first|rfl|(cases h;done)
theorem CalmStep.late {o:Oper} {r:AV} (ha:Agree X Y st ⟨st.σ,ver',h'⟩) (hl:lateB X Y st o=true) (hc:CalmStep G st o r):CalmStep G ⟨st.σ,ver',h'⟩ o r:=by
 have hev:∀ x,St.ev ⟨st.σ,ver',h'⟩ x=st.ev x:=fun x=>by cases x<;>rfl
 have hevf:St.ev ⟨st.σ,ver',h'⟩=st.ev:=funext hev
 have hparts:∀ ps,zi6 ⟨st.σ,ver',h'⟩ ps=zi6 st ps:=fun ps=>by unfold zi6;simp only[hev]
 unfold CalmStep at hc ⊢
 unfold lateB at hl
 cases ho:o.op with
 | box t x =>
  simp only[ho]at hc hl ⊢
  rw[hev,zti ha _ hl];exact hc
 | build t parts =>
  simp only[ho]at hc hl ⊢
  unfold zfi at hc ⊢
  have:=zvw ha parts hl (fun _=>true)
  simp only[Bool.and_true]at this
  rw[hparts,this];exact hc
 | buildSlice t len parts =>
  simp only[ho]at hc hl ⊢
  obtain⟨h1,e,sz,xs,h2,h3⟩:=hc
  refine⟨h1,e,sz,xs,?_,h3⟩
  unfold litAV at h2 ⊢
  have:=fun sz=>zvw ha parts hl (fun x=>x.cells.length==sz)
  simp only[hparts,this];exact h2
 | call c =>
  simp only[ho]at hc hl ⊢
  cases hcal:c.callee with
  | builtin b =>
   simp only[hcal]at hc hl ⊢
   cases b<;>first|(exact hc.elim)|skip
   unfold evalV at hc ⊢
   simp only[hcal]at hc ⊢
   split at hc
   · rename_i x t hargs htypes
     have hx:x∈c.args.toList:=by rw[hargs];simp
     have hd:=List.all_eq_true.1 hl x hx
     rw[hev]
     have:lenAV G.P ⟨st.σ,ver',h'⟩ t (st.ev x)=lenAV G.P st t (st.ev x):=by
      generalize st.ev x=p at hd
      unfold lenAV
      cases p with
      | ref i k =>
       obtain⟨h1,h2,_⟩:=ha i (zif hd)
       simp only at h1 h2
       simp only[h1]
       cases hh:st.h i with
       | arr e sz xs=>rw[hh]at h2;obtain⟨ys,h3,h4⟩:=h2;rw[h3];simp only[h4]
       | box cs=>rw[hh]at h2;obtain⟨ys,h3⟩:=h2;rw[h3]
       | none=>rw[hh]at h2;rw[show h' i=_ from h2]
       | map _ _=>rw[hh]at h2;rw[show h' i=_ from h2]
       | obj _=>rw[hh]at h2;rw[show h' i=_ from h2]
       | iter _ _ _=>rw[hh]at h2;rw[show h' i=_ from h2]
       | amap _=>rw[hh]at h2;rw[show h' i=_ from h2]
      | osl i k lo hi f =>
       obtain⟨h1,h2,_⟩:=ha i (zif hd)
       simp only at h1 h2
       simp only[h1]
       cases hh:st.h i with
       | arr e sz xs=>rw[hh]at h2;obtain⟨ys,h3,h4⟩:=h2;rw[h3];simp only[h4]
       | box cs=>rw[hh]at h2;obtain⟨ys,h3⟩:=h2;rw[h3]
       | none=>rw[hh]at h2;rw[show h' i=_ from h2]
       | map _ _=>rw[hh]at h2;rw[show h' i=_ from h2]
       | obj _=>rw[hh]at h2;rw[show h' i=_ from h2]
       | iter _ _ _=>rw[hh]at h2;rw[show h' i=_ from h2]
       | amap _=>rw[hh]at h2;rw[show h' i=_ from h2]
      | v y=>cases y<;>rfl
      | _=>rfl
     rw[this];exact hc
   · cases hc
  | invoke _ _=>simp only[hcal]at hc
  | value f =>
   simp only[hcal]at hc hl ⊢
   rw[hevf]
   rw[Bool.and_eq_true]at hl
   obtain⟨hl1,hl2⟩:=hl
   split at hc
   · rename_i g first captured hf
     rw[hf]at hl1
     simp only[Bool.and_eq_true]at hl1
     unfold zae at hc ⊢
     have:(first++(c.args.toList.map st.ev++captured)).map (ze9 ⟨st.σ,ver',h'⟩)=(first++(c.args.toList.map st.ev++captured)).map (ze9 st):=by
      refine List.map_congr_left fun p hp=>zfe _ _ p ?_
      rcases List.mem_append.1 hp with hp|hp
      · exact List.all_eq_true.1 hl1.1 p hp
      · rcases List.mem_append.1 hp with hp|hp
        · obtain⟨x,hx,rfl⟩:=List.mem_map.1 hp
          exact List.all_eq_true.1 hl2 x hx
        · exact List.all_eq_true.1 hl1.2 p hp
     rw[this];exact hc
   · exact hc.elim
 | alloc _=>simp only[ho]at hc
 | store _ _ _=>simp only[ho]at hc
 | select _ _=>simp only[ho]at hc
 | fieldAddr t x f =>
  simp only[ho,evalV]at hc hl ⊢
  rw[hev]
  have:zju G.P ⟨st.σ,ver',h'⟩ t f (st.ev x)=zju G.P st t f (st.ev x):=by
   generalize st.ev x=p at hl
   cases p with
   | rptr i k n j =>
    obtain⟨h1,_,_⟩:=ha i (zif hl)
    simp only at h1
    simp only[zju,h1]
   | _=>rfl
  rw[this];exact hc
 | indexAddr t x i =>
  simp only[ho,evalV]at hc hl ⊢
  rw[hev,hev]
  have:zod G.P ⟨st.σ,ver',h'⟩ t (st.ev x) (st.ev i)=zod G.P st t (st.ev x) (st.ev i):=by
   generalize st.ev x=p at hl
   generalize st.ev i=q
   cases p with
   | ref i k =>
    obtain⟨h1,h2,_⟩:=ha i (zif hl)
    simp only at h1 h2
    unfold zod
    cases q with
    | v y =>
     cases y<;>first|rfl|skip
     simp only[h1]
     cases hh:st.h i with
     | arr e sz xs=>rw[hh]at h2;obtain⟨ys,h3,h4⟩:=h2;rw[h3];simp only[h4]
     | box cs=>rw[hh]at h2;obtain⟨ys,h3⟩:=h2;rw[h3]
     | none=>rw[hh]at h2;rw[show h' i=_ from h2]
     | map _ _=>rw[hh]at h2;rw[show h' i=_ from h2]
     | obj _=>rw[hh]at h2;rw[show h' i=_ from h2]
     | iter _ _ _=>rw[hh]at h2;rw[show h' i=_ from h2]
     | amap _=>rw[hh]at h2;rw[show h' i=_ from h2]
    | _=>rfl
   | osl i k lo hi f =>
    obtain⟨h1,h2,_⟩:=ha i (zif hl)
    simp only at h1 h2
    unfold zod
    cases q with
    | v y =>
     cases y<;>first|rfl|skip
     simp only[h1]
     cases hh:st.h i with
     | arr e sz xs=>rw[hh]at h2;obtain⟨ys,h3,h4⟩:=h2;rw[h3];simp only[h4]
     | box cs=>rw[hh]at h2;obtain⟨ys,h3⟩:=h2;rw[h3]
     | none=>rw[hh]at h2;rw[show h' i=_ from h2]
     | map _ _=>rw[hh]at h2;rw[show h' i=_ from h2]
     | obj _=>rw[hh]at h2;rw[show h' i=_ from h2]
     | iter _ _ _=>rw[hh]at h2;rw[show h' i=_ from h2]
     | amap _=>rw[hh]at h2;rw[show h' i=_ from h2]
    | _=>rfl
   | rptr i k n j =>
    obtain⟨h1,_,_⟩:=ha i (zif hl)
    simp only at h1
    unfold zod
    cases q with
    | v y=>cases y<;>first|rfl|simp only[h1]
    | _=>rfl
   | _ =>
    unfold zod
    cases q with
    | v y=>cases y<;>rfl
    | _=>rfl
  rw[this];exact hc
 | slice t x lo hi mx =>
  simp only[ho,evalV]at hc hl ⊢
  rw[hev]
  have hbd:∀ d b,zfg ⟨st.σ,ver',h'⟩ d b=zfg st d b:=fun d b=>by cases b<;>simp only[zfg,hev]
  have:yi9 G.P ⟨st.σ,ver',h'⟩ t lo hi mx (st.ev x)=yi9 G.P st t lo hi mx (st.ev x):=by
   generalize st.ev x=p at hl
   unfold yi9
   simp only[hbd]
   cases p with
   | v y=>cases y<;>rfl
   | _=>first|rfl|cases hl
  rw[this];exact hc
 | load t x =>
  simp only[ho,evalV]at hc hl ⊢
  rw[hev]
  have:∀ m,zp9 ⟨st.σ,ver',h'⟩ m (st.ev x)=zp9 st m (st.ev x):=by
   intro m
   generalize st.ev x=p at hl
   cases p with
   | rptr i k n j =>
    have hn:=zif hl
    rw[List.mem_append,not_or]at hn
    obtain⟨h1,_,h3⟩:=ha i hn.1
    have h3:=h3 hn.2
    simp only at h1 h3
    simp only[zp9,h1,h3]
   | _=>rfl
  have h2:ldAV G.P ⟨st.σ,ver',h'⟩ t (st.ev x)=ldAV G.P st t (st.ev x):=by simp only[ldAV,this]
  rw[h2];exact hc
 | nilCheck x =>
  simp only[ho,evalV]at hc hl ⊢
  rw[hev]
  cases hp:st.ev x with
  | rptr i k n j =>
   rw[hp]at hl hc
   obtain⟨h1,_,_⟩:=ha i (zif hl)
   unfold sureP at hc ⊢
   simp only at h1
   simp only[h1]
   exact hc
  | _=>rw[hp]at hc;exact hc
 | move x=>simp only[ho,evalV]at hc ⊢;rw[hev];exact hc
 | assign x=>simp only[ho,evalV]at hc ⊢;rw[hev];exact hc
 | pick c x y=>simp only[ho,evalV]at hc ⊢;rw[hev,hev,hev];exact hc
 | binOp op t x y yt=>simp only[ho,evalV]at hc ⊢;rw[hev,hev];exact hc
 | unOp op t x=>simp only[ho,evalV]at hc ⊢;rw[hev];exact hc
 | convert s d x=>simp only[ho,evalV]at hc ⊢;rw[hev];exact hc
 | field t x f=>simp only[ho,evalV]at hc ⊢;rw[hev];exact hc
 | index t x i=>simp only[ho,evalV]at hc ⊢;rw[hev,hev];exact hc
 | extract x i=>simp only[ho,evalV]at hc ⊢;rw[hev];exact hc
 | makeFunc f first captured =>
  simp only[ho]at hc ⊢
  unfold evalV at hc ⊢
  rw[hevf]
  exact hc
 | _=>simp only[ho]at hl;cases hl
end
def kindO (own:List Nat) (o:Oper):Nat :=
 match o.op with
 | .alloc _=>1
 | .store ..=>2
 | .mapUpdate ..=>2
 | .mapEntry ..=>2
 | .entryStore ..=>2
 | .buildSlice ..=>match o.dst with
  | some d=>if own.contains d then 2 else 0
  | none=>0
 | .call c=>match c.callee with
  | .builtin .append=>2
  | .value _=>match o.dst with
   | some d=>if own.contains d then 2 else 0
   | none=>0
  | _=>0
 | _=>0
def OwnTo (G:Ctx) (own:List Nat) (o:Oper) (st:St) (ver':Nat→Nat) (h':Nat→Blk) (u:AV):Prop :=
 ∀ σ',(∀ x∈o.op.operands,St.ev ⟨σ',st.ver,st.h⟩ x=st.ev x)→∀ K:St→Prop,K (St.put ⟨σ',ver',h'⟩ o.dst u)→vcOp G own K o ⟨σ',st.ver,st.h⟩
def yrx:AV→Bool
 | .v x=>x.oneCell'
 | _=>false
def zcj (G:Ctx) (d:Nat) (z:Value) (st:St):St:=(st.setBox (G.ids d) (yps z)).put (some d) (.rptr (G.ids d) (st.ver (G.ids d)+1) 0 0)
theorem yry {st:St} {l:List AV} (h:l.all yrx=true):l.all (zte st)=true:=by
 rw[List.all_eq_true]at *
 intro c hc
 have:=h c hc
 cases c with
 | v x=>exact this
 | _=>cases this
def Node (G:Ctx) (own X Y:List Nat) (ops:Array Oper) (o:Oper) (K:St→Prop) (st:St):Prop :=
 (kindO own o=0∧∃ r,AYields G ops st o r∧lateB X [] st o=true∧K (st.put o.dst r)) ∨
 (kindO own o=1∧o.guard=none∧∃ t d z,o.op=.alloc t∧o.dst=some d∧G.ids d∈X∧tZero G.P t=some z∧(yps z).all yrx=true∧K (zcj G d z st)) ∨
 (kindO own o=2∧o.guard=none∧∃ ver' h' u,OwnTo G own o st ver' h' u∧Agree X Y st ⟨st.σ,ver',h'⟩∧K (St.put ⟨st.σ,ver',h'⟩ o.dst u))
def anyG (G:Ctx) (own X Y:List Nat) (md:Region.Mode) (ops:Array Oper) (L:Array Bool→St→Prop):Nat→Array Bool→St→Prop
 | 0,listed,st=>L listed st
 | f+1,listed,st=>Region.ready md ops listed≠[]∧∀ i∈Region.ready md ops listed,∃ o,ops[i]? = some o∧dstOK G.n o.dst∧Node G own X Y ops o (anyG G own X Y md ops L f (listed.setIfInBounds i true)) st
section
variable {G:Ctx} {ops:Array Oper} {md:Region.Mode} {own X Y early:List Nat}
theorem zp6 {st st':St} {o:Oper} (h:∀ x∈o.op.operands,st'.ev x=st.ev x):lateB X Y st' o=lateB X Y st o:=by
 unfold lateB
 cases ho:o.op with
 | nilCheck x=>rw[ho]at h;simp only;rw[h x (by simp[Op.operands])]
 | fieldAddr t x f=>rw[ho]at h;simp only;rw[h x (by simp[Op.operands])]
 | indexAddr t x i=>rw[ho]at h;simp only;rw[h x (by simp[Op.operands])]
 | load t x=>rw[ho]at h;simp only;rw[h x (by simp[Op.operands])]
 | slice t x lo hi mx=>rw[ho]at h;simp only;rw[h x (by simp[Op.operands])]
 | box t x=>rw[ho]at h;simp only;rw[h x (by simp[Op.operands])]
 | build t parts =>
  rw[ho]at h;simp only
  rw[Bool.eq_iff_iff,List.all_eq_true,List.all_eq_true]
  have e:∀ p∈parts.toList,st'.ev p.2=st.ev p.2:=fun p hp=>h p.2 (by simpa [Op.operands] using ⟨p.1,by simpa using hp⟩)
  exact⟨fun g p hp=>by rw[← e p hp];exact g p hp,fun g p hp=>by rw[e p hp];exact g p hp⟩
 | buildSlice t n parts =>
  rw[ho]at h;simp only
  rw[Bool.eq_iff_iff,List.all_eq_true,List.all_eq_true]
  have e:∀ p∈parts.toList,st'.ev p.2=st.ev p.2:=fun p hp=>h p.2 (by simpa [Op.operands] using ⟨p.1,by simpa using hp⟩)
  exact⟨fun g p hp=>by rw[← e p hp];exact g p hp,fun g p hp=>by rw[e p hp];exact g p hp⟩
 | call c =>
  rw[ho]at h;simp only
  have e:∀ x∈c.args.toList,st'.ev x=st.ev x:=fun x hx=>h x (by simp[Op.operands,Call.operands,Array.mem_toList_iff.1 hx])
  cases hc:c.callee with
  | builtin b =>
   cases b<;>first|rfl|skip
   simp only
   rw[Bool.eq_iff_iff,List.all_eq_true,List.all_eq_true]
   exact⟨fun g p hp=>by rw[← e p hp];exact g p hp,fun g p hp=>by rw[e p hp];exact g p hp⟩
  | invoke _ _=>rfl
  | value f =>
   simp only
   rw[h f (by simp[Op.operands,Call.operands,hc])]
   congr 1
   rw[Bool.eq_iff_iff,List.all_eq_true,List.all_eq_true]
   exact⟨fun g p hp=>by rw[← e p hp];exact g p hp,fun g p hp=>by rw[e p hp];exact g p hp⟩
 | _=>rfl
theorem zi8 {st:St} {o:Oper} {d:Option Tmp} {u:AV} (h:∀ x,d=some x→x∉o.looksAt ops):∀ x∈o.op.operands,St.ev (st.put d u) x=st.ev x:=by
 intro x hx
 cases d with
 | none=>rfl
 | some e =>
  cases x with
  | tmp t =>
   have hne:t≠e:=fun he=>h e rfl (by subst he;exact List.mem_append_left _ (List.mem_filterMap.2 ⟨.tmp t,by simpa using hx,rfl⟩))
   simp[St.ev,St.put,upd,hne]
  | _=>rfl
theorem AYields.late {st:St} {o:Oper} {r:AV} {ver':Nat→Nat} {h':Nat→Blk} (ha:Agree X Y st ⟨st.σ,ver',h'⟩) (hl:lateB X Y st o=true) (hy:AYields G ops st o r):AYields G ops ⟨st.σ,ver',h'⟩ o r:=by
 refine⟨hy.1,?_⟩
 have hy2:=hy.2
 cases hg:o.guard with
 | none=>simp only[hg]at hy2 ⊢;exact hy2.late ha hl
 | some jw =>
  obtain⟨j,want⟩:=jw
  simp only[hg]at hy2 ⊢
  obtain⟨t,b,h1,h2,h3⟩:=hy2
  refine⟨t,b,h1,h2,?_⟩
  split
  · rename_i hb;rw[if_pos hb]at h3;exact h3.late ha hl
  · rename_i hb;rw[if_neg hb]at h3;exact h3
theorem zbu (st:St) {id:Nat} (hid:id∈X) (cs:List AV):Agree X Y st (st.setBox id cs):=fun k hk=>by
 have hne:k≠id:=fun he=>hk (he ▸ hid)
 simp only[St.setBox,upd,hne,if_false]
 exact⟨trivial,Shape.refl _,fun _=>trivial⟩
theorem zdj (E:Bool) (W:Nat→Bool) {L:Array Bool→St→Prop} {i:Nat} {oi:Oper} {v:AV} (hi:ops[i]? = some oi) (hd:dstOK G.n oi.dst) (hk:kindO own oi=0) (hdone:∀ listed st,L listed st→Region.ready md ops listed=[]) :
 ∀ (f:Nat) (listed:Array Bool) (st:St),
  (∀ j oj,ops[j]? = some oj→j≠i→listed.getD j true=false→W j=false→(∀ e∈oj.after,Region.binds md e=true→e.on≠i)→oi.apart ops oj=true∧(E=true→kindO own oj≠2))→(∀ j,W j=true→j≠i∧listed.getD j true=false∧∃ oj,ops[j]? = some oj∧∃ e∈oj.after,Region.binds md e=true∧(e.on=i∨W e.on=true)) →
  i∈Region.ready md ops listed→AYields G ops st oi v→lateB X [] st oi=true→(E=false→lateB X Y st oi=true)→anyG G own X Y md ops L f (listed.setIfInBounds i true) (st.put oi.dst v)→anyG G own X Y md ops L (f+1) listed st:=by
 intro f
 induction f with
 | zero =>
  intro listed st _ _ hr hy hl hlE H
  refine⟨fun h=>(by rw[h]at hr;cases hr),fun j hj=>?_⟩
  by_cases hji:j=i
  · subst hji;exact⟨oi,hi,hd,.inl ⟨hk,v,hy,hl,H⟩⟩
  · have:=ready_mono hj hji
    rw[hdone _ _ H]at this
    cases this
 | succ f ih =>
  intro listed st hfree hW hr hy hl hlE H
  refine⟨fun h=>(by rw[h]at hr;cases hr),fun j hj=>?_⟩
  by_cases hji:j=i
  · subst hji;exact⟨oi,hi,hd,.inl ⟨hk,v,hy,hl,H⟩⟩
  · obtain⟨oj,hoj,hdj,hnode⟩:=H.2 j (ready_mono hj hji)
    obtain⟨hjun,oj',hoj',hall⟩:=mem_ready.1 hj
    have:oj'=oj:=Option.some.inj (hoj'.symm.trans hoj)
    subst this
    have hun:=(mem_ready.1 hr).1
    have hnot:∀ e∈oj'.after,Region.binds md e=true→e.on≠i:=fun e he hb heq=>by
     have h1:=hall e he hb
     rw[heq,getD_both hun]at h1
     cases h1
    have hWj:W j=false:=by
     cases hw:W j with
     | false=>rfl
     | true =>
      obtain⟨_,_,o3,ho3,e,he,hb,hon⟩:=hW j hw
      have:o3=oj':=Option.some.inj (ho3.symm.trans hoj')
      subst this
      have h1:=hall e he hb
      rcases hon with hon|hon
      · exact absurd hon (hnot e he hb)
      · rw[getD_both (hW e.on hon).2.1]at h1
        cases h1
    have hW':∀ k,W k=true→k≠i∧(listed.setIfInBounds j true).getD k true=false∧∃ ok,ops[k]? = some ok∧∃ e∈ok.after,Region.binds md e=true∧(e.on=i∨W e.on=true):=fun k hk=>by
     obtain⟨k1,k2,k3⟩:=hW k hk
     have hjk:j≠k:=fun h=>by subst h;rw[hWj]at hk;cases hk
     exact⟨k1,by rw[getD_set_ne true hjk];exact k2,k3⟩
    obtain⟨hap,hkE⟩:=hfree j oj' hoj hji hjun hWj hnot
    obtain⟨a1,a2,a3⟩:=Oper.apart_spec hap
    have hfree':∀ k ok,ops[k]? = some ok→k≠i→(listed.setIfInBounds j true).getD k true=false →
     W k=false→(∀ e∈ok.after,Region.binds md e=true→e.on≠i)→oi.apart ops ok=true∧(E=true→kindO own ok≠2):=fun k ok hk hki hun' hwk hno=>by
     refine hfree k ok hk hki ?_ hwk hno
     by_cases hjk:j=k
     · subst hjk;exact hjun
     · rw[getD_set_ne true hjk]at hun';exact hun'
    have hput:∀ x,oi.dst=some x→x∉oj'.looksAt ops:=a1
    have hevj:∀ x∈oj'.op.operands,St.ev (st.put oi.dst v) x=st.ev x:=zi8 hput
    refine⟨oj',hoj,hdj,?_⟩
    rcases hnode with ⟨hkj,rj,hyj,hlj,H1⟩|⟨hkj,hgj,t,d,z,hop,hdd,hid,hz,hzo,H1⟩|⟨hkj,hgj,ver',h',u,hto,hag,H1⟩
    · have hyj':AYields G ops st oj' rj:=by
       have h2:=AYields.of_put (u:=match oi.dst with|some d=>st.σ d|none=>.junk) hput hyj
       have hback:(st.put oi.dst v).put oi.dst (match oi.dst with|some d=>st.σ d|none=>.junk)=st:=by
        cases oi.dst with
        | none=>rfl
        | some d =>
         simp only[St.put]
         have:upd (upd st.σ d v) d (st.σ d)=st.σ:=by funext k;by_cases hk:k=d<;>simp[upd,hk]
         rw[this]
       rw[hback]at h2;exact h2
      refine .inl ⟨hkj,rj,hyj',by rw[← zp6 hevj];exact hlj,?_⟩
      refine ih (listed.setIfInBounds j true) _ hfree' hW' (ready_mono hr (Ne.symm hji)) (hy.of_put a3) (by rw[zp6 (zi8 a3)];exact hl) (fun hE=>by rw[zp6 (zi8 a3)];exact hlE hE) ?_
      rw[Array.setIfInBounds_comm _ _ hji,← St.put_comm st v rj a2]
      exact H1
    · refine .inr (.inl ⟨hkj,hgj,t,d,z,hop,hdd,hid,hz,hzo,?_⟩)
      have hag:Agree X [] st (st.setBox (G.ids d) (yps z)):=zbu st hid _
      have hy2:AYields G ops (st.setBox (G.ids d) (yps z)) oi v:=hy.late hag hl
      have hl2:lateB X [] (st.setBox (G.ids d) (yps z)) oi=true:=by rw[zp6 (st:=st) (fun x _=>by cases x<;>rfl)];exact hl
      have hl3:E=false→lateB X Y (st.setBox (G.ids d) (yps z)) oi=true:=fun hE=>by rw[zp6 (st:=st) (fun x _=>by cases x<;>rfl)];exact hlE hE
      have a3':∀ x,some d=some x→x∉oi.looksAt ops:=fun x hx=>a3 x (by rw[hdd,hx])
      refine ih (listed.setIfInBounds j true) _ hfree' hW' (ready_mono hr (Ne.symm hji)) (hy2.of_put a3') (by unfold zcj;rw[zp6 (zi8 a3')];exact hl2) (fun hE=>by unfold zcj;rw[zp6 (zi8 a3')];exact hl3 hE) ?_
      rw[Array.setIfInBounds_comm _ _ hji]
      have:(zcj G d z st).put oi.dst v=zcj G d z (st.put oi.dst v):=by
       unfold zcj
       rw[St.put_comm (st.setBox (G.ids d) (yps z)) (.rptr (G.ids d) (st.ver (G.ids d)+1) 0 0) v (x:=some d) (y:=oi.dst) (fun d' hd' he=>a2 d' he (by rw[hdd];exact hd'))]
       cases oi.dst<;>rfl
      rw[this];exact H1
    · have hEf:E=false:=by cases E with|false=>rfl|true=>exact absurd hkj (hkE rfl)
      have hto':OwnTo G own oj' st ver' h' u:=fun σ' hσ K hK=>by
       have e:∀ (dd:Option Tmp) (vv:AV),(st.put dd vv).ver=st.ver∧(st.put dd vv).h=st.h:=fun dd vv=>by cases dd<;>exact⟨rfl,rfl⟩
       have:=hto σ' (fun x hx=>by
        rw[(e oi.dst v).1,(e oi.dst v).2]
        exact (hσ x hx).trans (hevj x hx).symm) K hK
       rw[(e oi.dst v).1,(e oi.dst v).2]at this
       exact this
      have hag':Agree X Y st ⟨st.σ,ver',h'⟩:=by
       have e:∀ (dd:Option Tmp) (vv:AV),(st.put dd vv).ver=st.ver∧(st.put dd vv).h=st.h:=fun dd vv=>by cases dd<;>exact⟨rfl,rfl⟩
       intro id hid
       have:=hag id hid
       rw[(e oi.dst v).1,(e oi.dst v).2]at this
       exact this
      refine .inr (.inr ⟨hkj,hgj,ver',h',u,hto',hag',?_⟩)
      have hy2:AYields G ops ⟨st.σ,ver',h'⟩ oi v:=hy.late hag' (hlE hEf)
      have hl2:lateB X [] ⟨st.σ,ver',h'⟩ oi=true:=by rw[zp6 (st:=st) (fun x _=>by cases x<;>rfl)];exact hl
      have hl3:E=false→lateB X Y ⟨st.σ,ver',h'⟩ oi=true:=fun hE=>by rw[zp6 (st:=st) (fun x _=>by cases x<;>rfl)];exact hlE hE
      refine ih (listed.setIfInBounds j true) _ hfree' hW' (ready_mono hr (Ne.symm hji)) (hy2.of_put a3) (by rw[zp6 (zi8 a3)];exact hl2) (fun hE=>by rw[zp6 (zi8 a3)];exact hl3 hE) ?_
      rw[Array.setIfInBounds_comm _ _ hji,← St.put_comm ⟨st.σ,ver',h'⟩ v u a2]
      have:St.put ⟨st.σ,ver',h'⟩ oi.dst v=⟨(st.put oi.dst v).σ,ver',h'⟩:=by cases oi.dst<;>rfl
      rw[this];exact H1
theorem zck {st:St} {d d':Nat} {z z':Value} (hne:d'≠d) (hid:G.ids d'≠G.ids d):zcj G d' z' (zcj G d z st)=zcj G d z (zcj G d' z' st):=by
 unfold zcj St.setBox St.put
 simp only[St.mk.injEq]
 refine⟨?_,?_,?_⟩
 · funext k
   simp only[upd]
   by_cases h1:k=d
   · subst h1
     simp[hne.symm,hid.symm]
   · by_cases h2:k=d'
     · subst h2;simp[h1,hid]
     · simp[h1,h2]
 · funext k
   simp only[upd]
   by_cases h1:k=G.ids d
   · subst h1;simp[hid.symm]
   · by_cases h2:k=G.ids d'
     · subst h2;simp[h1,hid]
     · simp[h1,h2]
 · funext k
   simp only[upd]
   by_cases h1:k=G.ids d
   · subst h1;simp[hid.symm]
   · by_cases h2:k=G.ids d'
     · subst h2;simp[h1]
     · simp[h1,h2]
theorem zdi {L:Array Bool→St→Prop} {i:Nat} {oi:Oper} {t:TypeId} {d:Nat} {z:Value} (hinj:∀ d d',d≠d'→G.ids d≠G.ids d') (hi:ops[i]? = some oi) (hdo:dstOK G.n oi.dst) (hk:kindO own oi=1) (hg:oi.guard=none) (hop:oi.op=.alloc t) (hd:oi.dst=some d) (hid:G.ids d∈X) (hz:tZero G.P t=some z) (hzo:(yps z).all yrx=true) (hdone:∀ listed st,L listed st→Region.ready md ops listed=[]) :
 ∀ (f:Nat) (listed:Array Bool) (st:St),
  (∀ j oj,ops[j]? = some oj→j≠i→listed.getD j true=false→(∀ e∈oj.after,Region.binds md e=true→e.on≠i)→oi.apart ops oj=true∧kindO own oj≠2) →
  i∈Region.ready md ops listed→anyG G own X Y md ops L f (listed.setIfInBounds i true) (zcj G d z st)→anyG G own X Y md ops L (f+1) listed st:=by
 intro f
 induction f with
 | zero =>
  intro listed st _ hr H
  refine⟨fun h=>(by rw[h]at hr;cases hr),fun j hj=>?_⟩
  by_cases hji:j=i
  · subst hji;exact⟨oi,hi,hdo,.inr (.inl ⟨hk,hg,t,d,z,hop,hd,hid,hz,hzo,H⟩)⟩
  · have:=ready_mono hj hji
    rw[hdone _ _ H]at this
    cases this
 | succ f ih =>
  intro listed st hfree hr H
  refine⟨fun h=>(by rw[h]at hr;cases hr),fun j hj=>?_⟩
  by_cases hji:j=i
  · subst hji;exact⟨oi,hi,hdo,.inr (.inl ⟨hk,hg,t,d,z,hop,hd,hid,hz,hzo,H⟩)⟩
  · obtain⟨oj,hoj,hdj,hnode⟩:=H.2 j (ready_mono hj hji)
    obtain⟨hjun,oj',hoj',hall⟩:=mem_ready.1 hj
    have:oj'=oj:=Option.some.inj (hoj'.symm.trans hoj)
    subst this
    have hun:=(mem_ready.1 hr).1
    have hnot:∀ e∈oj'.after,Region.binds md e=true→e.on≠i:=fun e he hb heq=>by
     have h1:=hall e he hb
     rw[heq,getD_both hun]at h1
     cases h1
    obtain⟨hap,hk2⟩:=hfree j oj' hoj hji hjun hnot
    obtain⟨a1,a2,a3⟩:=Oper.apart_spec hap
    have hfree':∀ k ok,ops[k]? = some ok→k≠i→(listed.setIfInBounds j true).getD k true=false →
     (∀ e∈ok.after,Region.binds md e=true→e.on≠i)→oi.apart ops ok=true∧kindO own ok≠2:=fun k ok hk hki hun' hno=>by
     refine hfree k ok hk hki ?_ hno
     by_cases hjk:j=k
     · subst hjk;exact hjun
     · rw[getD_set_ne true hjk]at hun';exact hun'
    have hput:∀ x,some d=some x→x∉oj'.looksAt ops:=fun x hx=>a1 x (by rw[hd,hx])
    refine⟨oj',hoj,hdj,?_⟩
    rcases hnode with ⟨hkj,rj,hyj,hlj,H1⟩|⟨hkj,hgj,t',d',z',hop',hdd,hid',hz',hzo',H1⟩|⟨hkj,_⟩
    · have hlj0:lateB X [] (st.setBox (G.ids d) (yps z)) oj'=true:=by
       unfold zcj at hlj
       rw[zp6 (zi8 hput)]at hlj;exact hlj
      have hlj1:lateB X [] st oj'=true:=by rw[← zp6 (st:=st) (st':=st.setBox (G.ids d) (yps z)) (fun x _=>by cases x<;>rfl)];exact hlj0
      have hag:Agree X [] (zcj G d z st) ⟨(zcj G d z st).σ,st.ver,st.h⟩:=by
       have:=(zbu (X:=X) (Y:=[]) st hid (yps z)).symm
       exact this
      have hyj1:=hyj.late hag hlj
      have hyj':AYields G ops st oj' rj:=by
       have h2:=AYields.of_put (u:=st.σ d) hput hyj1
       have hback:(St.put ⟨(zcj G d z st).σ,st.ver,st.h⟩ (some d) (st.σ d))=st:=by
        unfold zcj St.put St.setBox
        have:upd (upd st.σ d (AV.rptr (G.ids d) (st.ver (G.ids d)+1) 0 0)) d (st.σ d)=st.σ:=by funext k;by_cases hk:k=d<;>simp[upd,hk]
        simp only[this]
       rw[hback]at h2;exact h2
      refine .inl ⟨hkj,rj,hyj',hlj1,?_⟩
      refine ih (listed.setIfInBounds j true) _ hfree' (ready_mono hr (Ne.symm hji)) ?_
      rw[Array.setIfInBounds_comm _ _ hji]
      have:(zcj G d z st).put oj'.dst rj=zcj G d z (st.put oj'.dst rj):=by
       unfold zcj
       rw[St.put_comm (st.setBox (G.ids d) (yps z)) (.rptr (G.ids d) (st.ver (G.ids d)+1) 0 0) rj (x:=some d) (y:=oj'.dst) (fun d' hd' he=>a2 d' (by rw[hd];exact hd') he)]
       cases oj'.dst<;>rfl
      rw[← this];exact H1
    · have hne:d'≠d:=fun he=>a2 d hd (by rw[hdd,he])
      refine .inr (.inl ⟨hkj,hgj,t',d',z',hop',hdd,hid',hz',hzo',?_⟩)
      refine ih (listed.setIfInBounds j true) _ hfree' (ready_mono hr (Ne.symm hji)) ?_
      rw[Array.setIfInBounds_comm _ _ hji,← zck hne (hinj _ _ hne)]
      exact H1
    · exact absurd hkj hk2
def inY (X Y:List Nat):AV→Bool
 | .rptr i _ _ _=>Y.contains i||X.contains i
 | _=>false
def OwnCall (G:Ctx) (X:List Nat) (g:FuncId) (args:List AV) (d:Nat) (K:St→Prop) (st:St):Prop :=
 ∃ e sz xs,AC G.P g args (.fresh e sz xs)∧G.ids d∈X∧K ((st.setArr (G.ids d) e sz xs).put (some d) (.ref (G.ids d) (st.ver (G.ids d)+1)))
@[congr] theorem OwnCall_congr {G:Ctx} {X:List Nat} {g:FuncId} {args args':List AV} {d:Nat} {K:St→Prop} {st st':St} (ha:args=args') (h:st=st'):OwnCall G X g args d K st=OwnCall G X g args' d K st':=by rw[ha,h]
theorem OwnCall.fresh {G:Ctx} {X:List Nat} {g:FuncId} {args:List AV} {d e sz:Nat} {xs:List AV} {K:St→Prop} {st:St} (h:AC G.P g args (.fresh e sz xs)) (hd:G.ids d∈X)
 (hk:K ((st.setArr (G.ids d) e sz xs).put (some d) (.ref (G.ids d) (st.ver (G.ids d)+1)))):OwnCall G X g args d K st:=⟨e,sz,xs,h,hd,hk⟩
def zvp (G:Ctx) (X:List Nat) (t:TypeId) (p q:AV) (d:Nat) (K:St→Prop) (st:St):Prop :=
 bindP (tElem G.P t) fun e=>bindP (tSize G.P e) fun sz=>bindP (ylk G.P e) fun bytes=>((tZero G.P e).map (·.cells.size)=some sz∧0 < sz) ∧
  ztr (zmk p) (fun sz' xs=>sz'=sz∧bindP (srcAV st sz q) fun ys=>((∀ c∈ys,zth st c=true)∧(xs.length+ys.length) * bytes≤140737488355328∧xs.length+ys.length≤140737488355328)∧ys≠[]∧G.ids d∈X ∧
   K ((st.setArr (G.ids d) e sz (xs++ys)).put (some d) (.ref (G.ids d) (st.ver (G.ids d)+1))))
  (oslOf st p=none∧bindP (zib st (G.ids d) e sz p) fun dx=>bindP (srcAV st sz q) fun ys=>((∀ c∈ys,zth st c=true)∧(dx.2.length+ys.length) * bytes≤140737488355328∧dx.2.length+ys.length≤140737488355328)∧dx.1∈X ∧
   K ((st.setArr dx.1 e sz (dx.2++ys)).put (some d) (.ref dx.1 (st.ver dx.1+1))))
def zvq (G:Ctx) (own X Y:List Nat) (o:Oper) (K:St→Prop) (st:St):Prop :=
 match o.op with
 | .store t p x=>bindP (ykv G.P st t (st.ev p) (st.ev x)) fun st'=>inY X Y (st.ev p)=true∧K (st'.put o.dst .junk)
 | .call c=>match c.callee,o.dst with
  | .value f,some d=>onFn (st.ev f) fun g first captured=>OwnCall G X g (first++(c.args.toList.map st.ev++captured)) d K st
  | .builtin .append,some d=>match c.args.toList,c.argTypes.toList with
   | [p,q],[t,t']=>t'=t∧zvp G X t (st.ev p) (st.ev q) d K st
   | _,_=>False
  | _,_=>False
 | .buildSlice t n parts=>match o.dst with
  | some d=>d∈own∧bindP (litAV G.P st t n parts) fun x=>G.ids d∈X∧K ((st.setArr (G.ids d) x.1 x.2.1 x.2.2).put (some d) (.ref (G.ids d) (st.ver (G.ids d)+1)))
  | none=>False
 | .mapEntry t m k=>bindP (tMap G.P t) fun y=>tInt G.P y.1=some .i64∧zt1 st (st.ev m) (fun id mm=>ztz (st.ev k) fun n=>bindP (tZero G.P y.2) fun z=>id∈X∧K ((st.setH id (.amap (mm.put n ((mm.f n).getD (.v z))))).put o.dst (.tup [(mm.f n).getD (.v z),.v (.int .i64 (mm.stamp n))]))) False
 | .entryStore t m s x=>zt1 st (st.ev m) (fun id mm=>ztz (st.ev s) fun b=>∃ n,(mm.f n).isSome=true∧(mm.b n:Int)=b∧id∈X∧K ((st.setH id (.amap (mm.put n (st.ev x)))).put o.dst .junk)) False
 | .mapUpdate t m k x=>bindP (tMap G.P t) fun y=>keyQ (st.ev k)=none∧tInt G.P y.1=some .i64∧zt1 st (st.ev m) (fun id mm=>ztz (st.ev k) fun n=>id∈X∧K ((st.setH id (.amap (mm.put n (st.ev x)))).put o.dst .junk)) False
 | _=>False
theorem zbv (st:St) {id:Nat} (hid:id∈X) (b:Blk):Agree X Y st (st.setH id b):=fun k hk=>by
 have:k≠id:=fun he=>hk (he ▸ hid)
 simp[St.setH,upd,this,Shape.refl]
theorem litAV_σ {P:Program} (st:St) (σ':Nat→AV) (t:TypeId) (n:Nat) (parts:Array (Nat×Operand)) (h:∀ p∈parts.toList,St.ev ⟨σ',st.ver,st.h⟩ p.2=st.ev p.2):litAV P ⟨σ',st.ver,st.h⟩ t n parts=litAV P st t n parts:=by
 have he:zi6 ⟨σ',st.ver,st.h⟩ parts=zi6 st parts:=by
  unfold zi6
  exact List.map_congr_left fun p hp=>by rw[h p hp]
 have hk:∀ x:Nat×AV,zth ⟨σ',st.ver,st.h⟩ x.2=zth st x.2:=fun x=>okCells_σ (st:=st) (σ':=σ') x.2
 unfold litAV
 simp only[he,hk]
theorem zbt (st:St) {id:Nat} (hid:id∈X) (e sz:Nat) (xs:List AV):Agree X Y st (st.setArr id e sz xs):=fun k hk=>by
 have:k≠id:=fun he=>hk (he ▸ hid)
 simp[St.setArr,upd,this,Shape.refl]
theorem okCells_σ2 (st:St) (σ':Nat→AV) (p:AV):zth ⟨σ',st.ver,st.h⟩ p=zth st p:=okCells_σ (st:=st) (σ':=σ') p
theorem storeSt_σ {P:Program} (st:St) (σ':Nat→AV) (t:TypeId) (p q:AV):ykv P ⟨σ',st.ver,st.h⟩ t p q=(ykv P st t p q).map fun s=>⟨σ',s.ver,s.h⟩:=by
 unfold ykv
 cases p with
 | rptr id k i j =>
  simp only[okCells_σ2]
  split
  · cases st.h id with
    | box cs=>simp only;split<;>rfl
    | arr e sz xs =>
     simp only
     cases xs[i]? with
     | none=>rfl
     | some x =>
      simp only
      split
      · rfl
      · cases x with
        | agg cs=>simp only;split<;>rfl
        | _=>rfl
    | _=>rfl
  · rfl
 | _=>rfl
theorem ykw {P:Program} {st st':St} {t:TypeId} {p q:AV} (h:ykv P st t p q=some st') (hi:inY X Y p=true):Agree X Y st ⟨st.σ,st'.ver,st'.h⟩∧st'.σ=st.σ:=by
 unfold ykv at h
 cases p with
 | rptr id k i j =>
  simp only at h
  have hX:∀ k,k∉X→k=id→id∈Y:=fun k hk he=>by
   subst he
   have:=hi
   simp only[inY,Bool.or_eq_true,List.contains_iff_mem]at this
   exact this.resolve_right hk
  split at h
  case isFalse=>cases h
  cases hh:st.h id with
  | box cs =>
   rw[hh]at h
   simp only at h
   split at h
   case isFalse=>cases h
   cases h
   refine⟨fun k hk=>⟨rfl,?_,fun hy=>?_⟩,rfl⟩
   · by_cases he:k=id
     · subst he;rw[hh];exact⟨_,by simp[upd];rfl⟩
     · simp only[upd,he,if_false];exact Shape.refl _
   · by_cases he:k=id
     · exact absurd (he ▸ hX k hk he) hy
     · simp only[upd,he,if_false]
  | arr e sz xs =>
   rw[hh]at h
   simp only at h
   have key:∀ x,some (({ st with h:=upd st.h id (.arr e sz (xs.set i x)) }:St))=some st'→Agree X Y st ⟨st.σ,st'.ver,st'.h⟩∧st'.σ=st.σ:=by
    intro x hx
    cases hx
    refine⟨fun k hk=>⟨rfl,?_,fun hy=>?_⟩,rfl⟩
    · by_cases he:k=id
      · subst he;rw[hh];exact⟨xs.set i x,by simp[upd],by simp⟩
      · simp only[upd,he,if_false];exact Shape.refl _
    · by_cases he:k=id
      · exact absurd (he ▸ hX k hk he) hy
      · simp only[upd,he,if_false]
   split at h
   · split at h
     · exact key _ h
     · split at h
       · split at h
         · exact key _ h
         · cases h
       · cases h
   · cases h
  | _=>rw[hh]at h;cases h
 | _=>cases h
theorem zvr {o:Oper} {K:St→Prop} {st:St} (hd0:dstOK G.n o.dst) (h:zvq G own X Y o K st):∃ ver' h' u,OwnTo G own o st ver' h' u∧Agree X Y st ⟨st.σ,ver',h'⟩∧K (St.put ⟨st.σ,ver',h'⟩ o.dst u):=by
 unfold zvq at h
 split at h
 · rename_i t p x ho
   obtain⟨st',hs,hi,hk⟩:=h
   obtain⟨ha,hσ⟩:=ykw hs hi
   refine⟨st'.ver,st'.h,.junk,?_,ha,?_⟩
   · intro σ' hev K' hK'
     unfold vcOp
     simp only[ho]
     rw[hev p (by rw[ho];simp[Op.operands]),hev x (by rw[ho];simp[Op.operands]),storeSt_σ,hs]
     exact⟨_,rfl,hK'⟩
   · have:(⟨st.σ,st'.ver,st'.h⟩:St)=st':=by rw[← hσ]
     rw[this];exact hk
 · rename_i c ho
   have hda:=hd0
   split at h
   · rename_i f d hc hdd
     obtain⟨g,first,captured,hf,e,sz,xs,hac,hid,hk⟩:=h
     refine⟨_,_,.ref (G.ids d) (st.ver (G.ids d)+1),?_,zbt st hid e sz xs,by rw[hdd];exact hk⟩
     intro σ' hev K' hK'
     unfold vcOp
     have hops:∀ x∈c.args.toList,St.ev ⟨σ',st.ver,st.h⟩ x=st.ev x:=fun x hx=>hev x (by rw[ho];simp[Op.operands,Call.operands,Array.mem_toList_iff.1 hx])
     have hfe:St.ev ⟨σ',st.ver,st.h⟩ f=st.ev f:=hev f (by rw[ho];simp[Op.operands,Call.operands,hc])
     have hargs:c.args.toList.map (St.ev ⟨σ',st.ver,st.h⟩)=c.args.toList.map st.ev:=List.map_congr_left hops
     simp only[ho,hc,hfe,hargs]
     refine .inl ⟨g,first,captured,hf,CallSem.pure hac hda ?_⟩
     rw[hdd]at hK' ⊢
     exact hK'
   · rename_i d hc hdd
     split at h
     case h_2=>cases h
     rename_i p q t t' hargs htypes
     obtain⟨rfl,e,he,sz,hs,bytes,hb,⟨hz,hpos⟩,h⟩:=h
     rcases h with ⟨sz',xs,hfull,rfl,ys,hsrc,⟨hok,hn,hn'⟩,hne,hid,hk⟩|⟨hfull,hosl,⟨id,xs⟩,hdest,ys,hsrc,⟨hok,hn,hn'⟩,hid,hk⟩
     · refine⟨_,_,.ref (G.ids d) (st.ver (G.ids d)+1),?_,zbt st hid e sz' (xs++ys),by rw[hdd];exact hk⟩
       intro σ' hev K' hK'
       have hp:St.ev ⟨σ',st.ver,st.h⟩ p=st.ev p:=hev p (by rw[ho];simp[Op.operands,Call.operands];right;rw[← Array.mem_toList_iff,hargs];simp)
       have hq:St.ev ⟨σ',st.ver,st.h⟩ q=st.ev q:=hev q (by rw[ho];simp[Op.operands,Call.operands];right;rw[← Array.mem_toList_iff,hargs];simp)
       have hokc:∀ c∈ys,zth ⟨σ',st.ver,st.h⟩ c=true:=fun c hc=>by rw[okCells_σ2];exact hok c hc
       have hsrc':srcAV ⟨σ',st.ver,st.h⟩ sz' (st.ev q)=some ys:=hsrc
       unfold vcOp
       simp only[ho,hc,hdd,hargs,htypes,hp,hq]
       rw[hdd]at hK'
       rw[zud hsrc']
       exact⟨trivial,e,he,sz',hs,bytes,hb,⟨hz,hpos⟩,.inl ⟨sz',xs,hfull,rfl,ys,hsrc',⟨hokc,hn,hn'⟩,fun h0=>absurd h0 hne,fun _=>hK'⟩⟩
     refine⟨_,_,.ref id (st.ver id+1),?_,zbt st hid e sz (xs++ys),by rw[hdd];exact hk⟩
     intro σ' hev K' hK'
     have hp:St.ev ⟨σ',st.ver,st.h⟩ p=st.ev p:=hev p (by rw[ho];simp[Op.operands,Call.operands];right;rw[← Array.mem_toList_iff,hargs];simp)
     have hq:St.ev ⟨σ',st.ver,st.h⟩ q=st.ev q:=hev q (by rw[ho];simp[Op.operands,Call.operands];right;rw[← Array.mem_toList_iff,hargs];simp)
     have hokc:∀ c∈ys,zth ⟨σ',st.ver,st.h⟩ c=true:=fun c hc=>by rw[okCells_σ2];exact hok c hc
     have hosl':oslOf ⟨σ',st.ver,st.h⟩ (st.ev p)=none:=hosl
     have hdest':zib ⟨σ',st.ver,st.h⟩ (G.ids d) e sz (st.ev p)=some (id,xs):=hdest
     have hsrc':srcAV ⟨σ',st.ver,st.h⟩ sz (st.ev q)=some ys:=hsrc
     unfold vcOp
     simp only[ho,hc,hdd,hargs,htypes,hp,hq]
     rw[hdd]at hK'
     rw[zud hsrc']
     exact⟨trivial,e,he,sz,hs,bytes,hb,⟨hz,hpos⟩,.inr ⟨hfull,.inr ⟨hosl',(id,xs),hdest',ys,hsrc',⟨hokc,hn,hn'⟩,hK'⟩⟩⟩
   · exact h.elim
 · rename_i t n parts ho
   split at h
   case h_2=>cases h
   rename_i d hdd
   obtain⟨hown,x,hx,hid,hk⟩:=h
   refine⟨_,_,.ref (G.ids d) (st.ver (G.ids d)+1),?_,zbt st hid x.1 x.2.1 x.2.2,by rw[hdd];exact hk⟩
   intro σ' hev K' hK'
   unfold vcOp
   simp only[ho,hdd]
   rw[litAV_σ st σ' t n parts fun p hp=>hev p.2 (by rw[ho];simp only[Op.operands];exact List.mem_toArray.2 (List.mem_map.2 ⟨p,hp,rfl⟩)),hx]
   refine⟨x,rfl,?_⟩
   simp only[if_pos hown]
   rw[hdd]at hK'
   exact hK'
 · rename_i t m k ho
   obtain⟨y,hy,hki,h⟩:=h
   rcases zt3 h with ⟨id,mm,hev,hh,h⟩|h
   case inr=>cases h
   unfold ztz at h
   split at h
   case h_2=>cases h
   rename_i n hek
   obtain⟨z,hz,hid,hk⟩:=h
   refine⟨_,_,.tup [(mm.f n).getD (.v z),.v (.int .i64 (mm.stamp n))],?_,zbv st hid (.amap (mm.put n ((mm.f n).getD (.v z)))),hk⟩
   intro σ' hev' K' hK'
   unfold vcOp
   simp only[ho]
   rw[hev' m (by rw[ho];simp[Op.operands]),hev' k (by rw[ho];simp[Op.operands]),hev,hek]
   refine⟨y,hy,hki,fun _=>?_,fun hn=>absurd rfl hn⟩
   show zt2 (st.h id) _ _
   rw[hh]
   exact⟨z,hz,hK'⟩
 · rename_i t m s x ho
   rcases zt3 h with ⟨id,mm,hev,hh,h⟩|h
   case inr=>cases h
   unfold ztz at h
   split at h
   case h_2=>cases h
   rename_i b hek
   obtain⟨n,hn,hb,hid,hk⟩:=h
   refine⟨_,_,.junk,?_,zbv st hid (.amap (mm.put n (st.ev x))),hk⟩
   intro σ' hev' K' hK'
   unfold vcOp
   simp only[ho]
   rw[hev' m (by rw[ho];simp[Op.operands]),hev' s (by rw[ho];simp[Op.operands]),hev' x (by rw[ho];simp[Op.operands]),hev,hek]
   refine⟨fun _=>?_,fun hn=>absurd rfl hn⟩
   show zt2 (st.h id) _ _
   rw[hh]
   exact⟨n,hn,hb,hK'⟩
 · rename_i t m k x ho
   obtain⟨y,hy,hkq,hki,h⟩:=h
   rcases zt3 h with ⟨id,mm,hev,hh,h⟩|h
   case inr=>cases h
   unfold ztz at h
   split at h
   case h_2=>cases h
   rename_i n hek
   obtain⟨hid,hk⟩:=h
   refine⟨_,_,.junk,?_,zbv st hid (.amap (mm.put n (st.ev x))),hk⟩
   intro σ' hev' K' hK'
   unfold vcOp
   simp only[ho]
   rw[hev' m (by rw[ho];simp[Op.operands]),hev' k (by rw[ho];simp[Op.operands]),hev' x (by rw[ho];simp[Op.operands]),hev,hek]
   refine⟨y,hy,?_⟩
   rw[hek]at hkq
   unfold zt0
   rw[hkq]
   refine⟨hki,fun _=>?_,fun hn=>absurd rfl hn⟩
   show zt2 (st.h id) _ _
   rw[hh]
   exact hK'
 · exact h.elim
def zor (early:List Nat) (o:Oper):Bool:=match o.dst with
 | some d=>early.contains d
 | none=>false
theorem zp5 {X Y:List Nat} {st:St} {o:Oper} (h:lateB X Y st o=true):lateB X [] st o=true:=by
 unfold lateB at h ⊢
 cases ho:o.op with
 | load t x =>
  simp only[ho]at h ⊢
  cases hp:st.ev x with
  | ref i k=>rw[hp]at h;simp[dj]at h ⊢;exact h.1
  | rptr i k n j=>rw[hp]at h;simp[dj]at h ⊢;exact h.1
  | osl i k lo hi f=>rw[hp]at h;simp[dj]at h ⊢;exact h.1
  | _=>rfl
 | _=>simp only[ho]at h ⊢;first|done|exact h
def vcAny (G:Ctx) (own X Y early:List Nat) (ops:Array Oper) (Q:St→Prop):List Oper→St→Prop
 | [],st=>Q st
 | o::rest,st=>match kindO own o with
  | 0=>lateB X (if zor early o=true then [] else Y) st o=true∧ypw G ops (fun st'=>vcAny G own X Y early ops Q rest st') [o] st
  | 1=>o.guard=none∧dstOK G.n o.dst∧match o.op,o.dst with
   | .alloc t,some d=>G.ids d∈X∧bindP (tZero G.P t) fun z=>(yps z).all yrx=true∧vcAny G own X Y early ops Q rest (zcj G d z st)
   | _,_=>False
  | _=>o.guard=none∧dstOK G.n o.dst∧zvq G own X Y o (fun st'=>vcAny G own X Y early ops Q rest st') st
def wt1 (md:Region.Mode) (ops:Array Oper) (listed:Array Bool) (i j:Nat):Bool:=match ops[j]? with
 | some oj=>(j != i&&!listed.getD j true)&&oj.after.any (fun e=>Region.binds md e&&e.on==i)
 | none=>false
def wt2 (md:Region.Mode) (ops:Array Oper) (listed:Array Bool) (i j:Nat):Bool:=match ops[j]? with
 | some oj=>(j != i&&!listed.getD j true)&&oj.after.any (fun e=>Region.binds md e&&(e.on==i||wt1 md ops listed i e.on))
 | none=>false
theorem wt1_2 {md:Region.Mode} {ops:Array Oper} {listed:Array Bool} {i j:Nat} (h:wt1 md ops listed i j=true):wt2 md ops listed i j=true:=by
 unfold wt1 at h
 unfold wt2
 split at h
 · rename_i oj hj
   simp only[Bool.and_eq_true]at h ⊢
   obtain⟨h1,h2⟩:=h
   refine⟨h1,?_⟩
   obtain⟨e,he,hb⟩:=Array.any_eq_true'.1 h2
   simp only[Bool.and_eq_true]at hb
   exact Array.any_eq_true'.2 ⟨e,he,by simp[hb.1,hb.2]⟩
 · cases h
theorem wt2_spec {md:Region.Mode} {ops:Array Oper} {listed:Array Bool} {i j:Nat} (h:wt2 md ops listed i j=true) :
 j≠i∧listed.getD j true=false∧∃ oj,ops[j]? = some oj∧∃ e∈oj.after,Region.binds md e=true∧(e.on=i∨wt2 md ops listed i e.on=true):=by
 unfold wt2 at h
 split at h
 · rename_i oj hj
   simp only[Bool.and_eq_true,bne_iff_ne,Bool.not_eq_true']at h
   obtain⟨⟨h1,h2⟩,h3⟩:=h
   obtain⟨e,he,hb⟩:=Array.any_eq_true'.1 h3
   simp only[Bool.and_eq_true,Bool.or_eq_true,beq_iff_eq]at hb
   refine⟨h1,h2,oj,hj,e,he,hb.1,?_⟩
   rcases hb.2 with h4|h4
   · exact .inl h4
   · exact .inr (wt1_2 h4)
 · cases h
def zf5 (md:Region.Mode) (ops:Array Oper) (own early:List Nat):List Nat→Array Bool→Bool
 | [],listed=>(Region.ready md ops listed).isEmpty
 | i::l,listed=>(match ops[i]? with
  | none=>false
  | some o=>match kindO own o with
   | 0=>(Region.ready md ops listed).contains i&&Region.free md ops listed i&&(!zor early o||(List.range ops.size).all fun j=>j==i||listed.getD j true||wt2 md ops listed i j||match ops[j]? with
    | some oj=>kindO own oj != 2
    | none=>true)
   | 1=>(Region.ready md ops listed).contains i&&Region.free md ops listed i&&(List.range ops.size).all fun j=>j==i||listed.getD j true||match ops[j]? with
    | some oj=>oj.after.any (fun e=>Region.binds md e&&e.on==i)||kindO own oj != 2
    | none=>true
   | _=>Region.ready md ops listed==[i])&&zf5 md ops own early l (listed.setIfInBounds i true)
theorem zpr (own:List Nat) (o:Oper):kindO own o=0∨kindO own o=1∨kindO own o=2:=by
 unfold kindO
 split
 · exact .inr (.inl rfl)
 · exact .inr (.inr rfl)
 · exact .inr (.inr rfl)
 · exact .inr (.inr rfl)
 · exact .inr (.inr rfl)
 · split
   · split
     · exact .inr (.inr rfl)
     · exact .inl rfl
   · exact .inl rfl
 · split
   · exact .inr (.inr rfl)
   · split
     · split
       · exact .inr (.inr rfl)
       · exact .inl rfl
     · exact .inl rfl
   · exact .inl rfl
 · exact .inl rfl
theorem zdk (hinj:∀ d d',d≠d'→G.ids d≠G.ids d') {Q:St→Prop}:∀ (l:List Nat) (listed:Array Bool) (st:St),zf5 md ops own early l listed=true→vcAny G own X Y early ops Q (l.filterMap fun i=>ops[i]?) st →
 anyG G own X Y md ops (fun listed' st'=>Region.ready md ops listed'=[]∧Q st') l.length listed st
 | [],listed,st,hB,h=>⟨by simpa [zf5] using hB,h⟩
 | i::l,listed,st,hB,h=>by
  unfold zf5 at hB
  cases hi:ops[i]? with
  | none=>rw[hi]at hB;simp at hB
  | some o =>
   rw[List.filterMap_cons,hi]at h
   simp only at h
   unfold vcAny at h
   rw[hi]at hB
   simp only at hB
   have hdone:∀ (listed':Array Bool) (st':St),(Region.ready md ops listed'=[]∧Q st')→Region.ready md ops listed'=[]:=fun _ _ h=>h.1
   rcases zpr own o with hk|hk|hk
   · simp only[hk]at h hB
     simp only[Bool.and_eq_true]at hB
     obtain⟨⟨⟨hr,hf⟩,hall⟩,hB'⟩:=hB
     obtain⟨hl,hv⟩:=h
     obtain⟨r,hy,hK⟩:=ypx hv
     refine zdj (zor early o) (fun j=>zor early o&&wt2 md ops listed i j) hi hy.1 hk hdone l.length listed st (fun j oj hj hne hun hw hno=>⟨Region.free_spec hi hf j oj hj hne hun hno,fun hE=>?_⟩) (fun j hj=>by
      simp only[Bool.and_eq_true]at hj
      obtain⟨w1,w2,oj,w3,e,w4,w5,w6⟩:=wt2_spec hj.2
      refine⟨w1,w2,oj,w3,e,w4,w5,?_⟩
      rcases w6 with w6|w6
      · exact .inl w6
      · exact .inr (by simp only[Bool.and_eq_true];exact⟨hj.1,w6⟩)) (by simpa using hr) hy (zp5 hl) (fun hE=>by rw[hE]at hl;simpa using hl) (zdk hinj l _ _ hB' hK)
     rw[hE]at hall hw
     simp only[Bool.not_true,Bool.false_or]at hall
     simp only[Bool.true_and]at hw
     have h1:=List.all_eq_true.1 hall j (List.mem_range.2 (Array.getElem?_eq_some_iff.1 hj).1)
     simp only[hj,Bool.or_eq_true,beq_iff_eq,hne,false_or,hun,Bool.false_eq_true,bne_iff_ne,hw]at h1
     exact h1
   · simp only[hk]at h hB
     simp only[Bool.and_eq_true]at hB
     obtain⟨⟨⟨hr,hf⟩,hall⟩,hB'⟩:=hB
     obtain⟨hg,hdo,h⟩:=h
     split at h
     case h_2=>cases h
     rename_i t d hop hd
     obtain⟨hid,z,hz,hzo,hK⟩:=h
     refine zdi hinj hi hdo hk hg hop hd hid hz hzo hdone l.length listed st (fun j oj hj hne hun hno=>⟨Region.free_spec hi hf j oj hj hne hun hno,?_⟩) (by simpa using hr) (zdk hinj l _ _ hB' hK)
     have h1:=List.all_eq_true.1 hall j (List.mem_range.2 (Array.getElem?_eq_some_iff.1 hj).1)
     simp only[hj,Bool.or_eq_true,beq_iff_eq,hne,false_or,hun,Bool.false_eq_true,bne_iff_ne]at h1
     rcases h1 with h1|h1
     · obtain⟨e,he,hb⟩:=Array.any_eq_true'.1 h1
       simp only[Bool.and_eq_true,beq_iff_eq]at hb
       exact absurd hb.2 (hno e he hb.1)
     · exact h1
   · simp only[hk]at h hB
     simp only[Bool.and_eq_true,beq_iff_eq]at hB
     obtain⟨hr,hB'⟩:=hB
     obtain⟨hg,hdo,h⟩:=h
     obtain⟨ver',h',u,hto,hag,hK⟩:=zvr hdo h
     refine⟨fun h0=>(by rw[hr]at h0;cases h0),fun j hj=>?_⟩
     rw[hr,List.mem_singleton]at hj
     subst hj
     exact⟨o,hi,hdo,.inr (.inr ⟨hk,hg,ver',h',u,hto,hag,zdk hinj l _ _ hB' hK⟩)⟩
theorem yrg {L:Array Bool→St→Prop} {Q':Exit→Act→World→Prop} (hL:∀ listed st E a,Rel G st E a→L listed st→wpAnyIn G.F 0 G.P md ops Q' 0 listed a E.w) :
 ∀ (f:Nat) (listed:Array Bool) (st:St) (E:Env) (a:Act),Rel G st E a→anyG G own X Y md ops L f listed st→wpAnyIn G.F 0 G.P md ops Q' f listed a E.w
 | 0,listed,st,E,a,hr,h=>hL _ _ _ _ hr h
 | f+1,listed,st,E,a,hr,h=>by
  refine⟨fun h0=>absurd h0 h.1,fun i hi=>?_⟩
  obtain⟨o,ho,hd,hnode⟩:=h.2 i hi
  have ih:=yrg hL f (listed.setIfInBounds i true)
  have go:∀ (own':List Nat),vcOp G own' (anyG G own X Y md ops L f (listed.setIfInBounds i true)) o st→o.wpIn G.F 0 G.P a E.w (wpAnyIn G.F 0 G.P md ops Q' f (listed.setIfInBounds i true)) Q':=fun own' hc =>
   Oper.wpIn_mono (fun a' w' ⟨st',E',hw,hrel,hk⟩=>by subst hw;exact ih st' E' a' hrel hk) (yp0 own' (K:=fun st'=>anyG G own X Y md ops L f (listed.setIfInBounds i true) st') hd hr hc)
  unfold wpOpIn
  simp only[ho]
  unfold Region.wanted
  rcases hnode with ⟨_,r,hy,_,hrest⟩|⟨_,hg,t,d,z,hop,hdd,_,hz,hzo,hrest⟩|⟨_,hg,ver',h',u,hto,_,hrest⟩
  · obtain⟨_,hy⟩:=hy
    cases hg:o.guard with
    | none=>simp only[hg]at hy;simp only[if_true];exact go [] (hy.vc hd hrest)
    | some jw =>
     obtain⟨j,want⟩:=jw
     simp only[hg]at hy
     obtain⟨t,b,ht,hb,hyy⟩:=hy
     simp only[zm9 hr ht hb]
     cases b with
     | true =>
      simp only[if_true]at hyy ⊢
      exact go [] (hyy.vc hd hrest)
     | false =>
      simp only[Bool.false_eq_true,if_false]at hyy ⊢
      subst hyy
      exact⟨fun _ _=>trivial,ih _ E _ (hr.put (.v undef) (fun d he=>by rw[he]at hd;exact hd)) hrest⟩
  · simp only[hg,if_true]
    refine go [] ?_
    unfold vcOp
    simp only[hop,hdd]
    exact⟨z,hz,yry hzo,hrest⟩
  · simp only[hg,if_true]
    exact go own (hto st.σ (fun _ _=>rfl) _ hrest)
theorem AWp.drawAny {id:Nat} {l:List Oper} {Q:Exit→St→Prop} {st:St} (own X Y early:List Nat) (order:List Nat) (hm:G.P.follows .mixedOrders=true) (hB:(order.length==l.length&&zf5 .any l.toArray own early order (Array.replicate l.toArray.size false))=true)
 (hinj:∀ d d',d≠d'→G.ids d≠G.ids d') {l':List Oper} (hl:(order.filterMap fun i=>l[i]?)=l')
 (h:vcAny G own X Y early l.toArray (Q .normal) l' st):AWp G (.region id l.toArray true) Q st:=fun E a hr=>by
 subst hl
 simp only[Bool.and_eq_true,beq_iff_eq]at hB
 refine wpIn_region_any hm ?_
 have H:=zdk hinj (Q:=Q .normal) order (Array.replicate l.toArray.size false) st hB.2 (by simpa using h)
 have:=yrg (G:=G) (Q':=fun e a' w'=>∃ st' E',E'.w=w'∧Rel G st' E' a'∧Q e st') (fun listed st' E' a' hr' hL=>⟨hL.1,st',E',rfl,hr',hL.2⟩) _ _ _ _ _ hr.drew H
 rw[hB.1]at this
 simpa using this
theorem zj8 {α:Type}:∀ (l:List α),(List.range l.length).filterMap (fun i=>l[i]?)=l
 | []=>rfl
 | x::l=>by
  rw[List.length_cons,List.range_succ_eq_map,List.filterMap_cons]
  simp only[List.getElem?_cons_zero,List.filterMap_map]
  have:=zj8 l
  rw[show ((fun i=>(x::l)[i]?)∘Nat.succ)=(fun i=>l[i]?) from by funext i;simp]
  rw[this]
theorem AWp.drawText {id:Nat} {l:List Oper} {Q:Exit→St→Prop} {st:St} (own X Y early:List Nat) (hm:G.P.follows .mixedOrders=true) (hB:zf5 .any l.toArray own early (List.range l.length) (Array.replicate l.toArray.size false)=true)
 (hinj:∀ d d',d≠d'→G.ids d≠G.ids d') (h:vcAny G own X Y early l.toArray (Q .normal) l st):AWp G (.region id l.toArray true) Q st :=
 AWp.drawAny own X Y early (List.range l.length) hm (by rw[hB];simp) hinj (zj8 l) h
end
@[congr] theorem vcAny_congr {G:Ctx} {own X Y early:List Nat} {ops:Array Oper} {Q:St→Prop} {l:List Oper} {st st':St} (h:st=st'):vcAny G own X Y early ops Q l st=vcAny G own X Y early ops Q l st':=by rw[h]
end Go.Abs
