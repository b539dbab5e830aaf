/- Several texts of the proof in one: Fc. No condition. -/
import Derived.Test.YthjmjdleecmaeaaGreatL00
import Derived.WideKeyRuns
import Derived.Laws.StructEq
import Derived.Laws.BytesArg
set_option linter.unusedSimpArgs false
set_option linter.unusedVariables false
set_option maxHeartbeats 4000000
set_option maxRecDepth 8000
namespace Go.Abs
open Go Go.RowKit
def yi2 (op:BinOp) (k:IntKind) (x y:Int):Option AV :=
 if y < 0 then none else
 match op with
 | .shl=>some (.v (.int k (k.wrap (x * 2 ^ (min y.toNat k.bits)))))
 | .shr=>some (.v (.int k (x.fdiv (2 ^ (min y.toNat k.bits)))))
 | _=>none
def andI (k:IntKind) (x y:Int):Int:=k.wrap (BitVec.ofInt k.bits x &&& BitVec.ofInt k.bits y).toNat
def orI (k:IntKind) (x y:Int):Int:=k.wrap (BitVec.ofInt k.bits x ||| BitVec.ofInt k.bits y).toNat
def xorI (k:IntKind) (x y:Int):Int:=k.wrap (BitVec.ofInt k.bits x ^^^ BitVec.ofInt k.bits y).toNat
def zcu (k:IntKind) (x y:Int):Int:=k.wrap (BitVec.ofInt k.bits x &&& ~~~BitVec.ofInt k.bits y).toNat
def zon (op:BinOp) (k:IntKind) (x y:Int):Option AV :=
 match op with
 | .and=>some (.v (.int k (andI k x y)))
 | .or=>some (.v (.int k (orI k x y)))
 | .xor=>some (.v (.int k (xorI k x y)))
 | .andNot=>some (.v (.int k (zcu k x y)))
 | .shl=>yi2 .shl k x y
 | .add=>some (.v (.int k (k.wrap (x+y))))
 | .sub=>some (.v (.int k (k.wrap (x - y))))
 | .mul=>some (.v (.int k (k.wrap (x * y))))
 | .quo=>if y=0 then none else some (.v (.int k (k.wrap (x.tdiv y))))
 | .rem=>if y=0 then none else some (.v (.int k (x.tmod y)))
 | .eql=>some (.v (.bool (x==y)))
 | .neq=>some (.v (.bool (x != y)))
 | .lss=>some (.v (.bool (x < y)))
 | .leq=>some (.v (.bool (x≤y)))
 | .gtr=>some (.v (.bool (x > y)))
 | .geq=>some (.v (.bool (x≥y)))
 | .shr=>if y=1 then some (.v (.int k (x.fdiv 2))) else yi2 .shr k x y
def ykz (op:BinOp) (x y:ByteArray):Option AV :=
 match op with
 | .add=>if ((x.size+y.size:Nat):Int) > IntKind.i64.max then none else some (.v (.string (x++y)))
 | .eql=>some (.v (.bool (x.toList==y.toList)))
 | .neq=>some (.v (.bool (!(x.toList==y.toList))))
 | .lss=>some (.v (.bool (Op.bytesLess x.toList y.toList)))
 | .leq=>some (.v (.bool (Op.bytesLess x.toList y.toList||x.toList==y.toList)))
 | .gtr=>some (.v (.bool (!(Op.bytesLess x.toList y.toList||x.toList==y.toList))))
 | .geq=>some (.v (.bool (!(Op.bytesLess x.toList y.toList))))
 | _=>none
def ze8 (P:Program) (op:BinOp) (t:TypeId) (x y:Bool):Option AV :=
 match P.underlying t with
 | some .bool=>match op with
  | .eql=>some (.v (.bool (x==y)))
  | .neq=>some (.v (.bool (!(x==y))))
  | _=>none
 | _=>none
def fKind (P:Program) (t:TypeId):Option Nat :=
 match P.underlying t with
 | some (.int _)=>some 0
 | some .string=>some 1
 | some .bool=>some 2
 | _=>none
def tFlat (P:Program) (t:TypeId):Option (List Nat) :=
 match P.underlying t with
 | some (.struct fs)=>if P.stoodInHeld t=false∧P.eqGuardType P.depth t=false∧fs.toList.map (·.offset)=List.range' 0 fs.toList.length∧(fs.toList.all fun f=>f.name != "_")=true then fs.toList.mapM fun f=>fKind P f.type else none
 | _=>none
def zi1:List Nat→List AV→List AV→Option Bool
 | [],[],[]=>some true
 | 0::ks,.v (.int k x)::ps,.v (.int k' y)::qs=>if k=k' then (zi1 ks ps qs).map fun b=>(x==y)&&b else none
 | 1::ks,.v (.string x)::ps,.v (.string y)::qs=>(zi1 ks ps qs).map fun b=>(x.toList==y.toList)&&b
 | 2::ks,.v (.bool x)::ps,.v (.bool y)::qs=>(zi1 ks ps qs).map fun b=>(x==y)&&b
 | _,_,_=>none
def eqOp:BinOp→Bool→Option AV
 | .eql,b=>some (.v (.bool b))
 | .neq,b=>some (.v (.bool !b))
 | _,_=>none
def tPtr (P:Program) (t:TypeId):Bool :=
 match P.underlying t with
 | some (.pointer _)=>true
 | _=>false
theorem yoh {P:Program} {t:TypeId} (h:tPtr P t=true):∃ e,P.underlying t=some (.pointer e):=by
 unfold tPtr at h;split at h<;>first|exact⟨_,by assumption⟩|cases h
def binAV (P:Program) (op:BinOp) (t:TypeId):AV→AV→Option AV
 | .agg xs,.agg ys=>(tFlat P t).bind fun ks=>(zi1 ks xs ys).bind (eqOp op)
 | .v (.int k x),.v (.int k' y)=>if k=k' then zon op k x y else yi2 op k x y
 | .eptr _ _,.v (.pointer none)=>if tPtr P t=true then eqOp op false else none
 | .v (.pointer none),.v (.pointer none)=>if tPtr P t=true then eqOp op true else none
 | .v (.string x),.v (.string y)=>ykz op x y
 | .v (.bool x),.v (.bool y)=>ze8 P op t x y
 | _,_=>none
def unAV (op:UnOp):AV→Option AV
 | .v (.bool b)=>match op with|.not=>some (.v (.bool !b))|_=>none
 | .v (.int k n)=>match op with|.neg=>some (.v (.int k (k.wrap (0 - n))))|.xor=>some (.v (.int k (xorI k (if k.signed then -1 else k.max) n)))|_=>none
 | _=>none
def isV:AV→Bool
 | .v _=>true
 | _=>false
def zfk:AV→Option Int
 | .v (.int .u8 n)=>some n
 | _=>none
def zhg (P:Program) (src dst:TypeId):AV→Option AV
 | .v (.int _ n)=>(tInt P dst).map fun k=>.v (.int k (k.wrap n))
 | .lst 1 xs=>if ((tElem P src).bind (tInt P))=some .u8∧tStr P dst=true then (xs.mapM zfk).map fun ns=>.v (.string (strOfNums ns)) else none
 | _=>none
def zju (P:Program) (st:St) (t:TypeId) (f:Nat):AV→Option AV
 | .eptr cs j=>(yls P t f).map fun x=>.eptr cs (j+x.1)
 | .rptr id k i j=>if k=st.ver id then (yls P t f).map fun x=>.rptr id k i (j+x.1) else none
 | _=>none
def zjs (P:Program) (t:TypeId) (f:Nat):AV→Option AV
 | .agg cs=>match yls P t f with
  | some (off,u)=>match tAgg P u,tSize P u with
   | some b,some m=>if off+m≤cs.length then mkAV b ((cs.drop off).take m) else none
   | _,_=>none
  | none=>none
 | _=>none
def zod (P:Program) (st:St) (t:TypeId):AV→AV→Option AV
 | .lst sz xs,.v (.int _ i) =>
  if ((tElem P t).bind (tSize P))=some sz∧0≤i∧i < xs.length then (xs[i.toNat]?).map fun x=>.eptr x.cells 0 else none
 | .ref id k,.v (.int _ i) =>
  if k=st.ver id then
   match st.h id with
   | .arr _ sz xs=>if ((tElem P t).bind (tSize P))=some sz∧0≤i∧i < xs.length then some (.rptr id k i.toNat 0) else none
   | _=>none
  else none
 | .osl id k lo hi _,.v (.int _ i) =>
  if k=st.ver id then
   match st.h id with
   | .arr _ sz xs=>if ((tElem P t).bind (tSize P))=some sz∧0≤i∧i < ((hi - lo:Nat):Int)∧hi≤xs.length then some (.rptr id k (lo+i.toNat) 0) else none
   | _=>none
  else none
 | .eptr cs j,.v (.int _ i)=>(tArr P t).bind fun x=>if 0≤i∧i < x.1 then some (.eptr cs (j+i.toNat * x.2)) else none
 | .rptr id k n j,.v (.int _ i)=>if k=st.ver id then (tArr P t).bind fun x=>if 0≤i∧i < x.1 then some (.rptr id k n (j+i.toNat * x.2)) else none else none
 | _,_=>none
def zob (P:Program) (t:TypeId):AV→AV→Option AV
 | .v (.string s),.v (.int _ i)=>if tStr P t=true∧0≤i then (s[i.toNat]?).map fun b=>.v (.int .u8 b.toNat) else none
 | .agg cs,.v (.int _ i)=>match tArrE P t with
  | some (n,e)=>match tAgg P e,tSize P e with
   | some b,some m=>if 0≤i∧i < n∧i.toNat * m+m≤cs.length then mkAV b ((cs.drop (i.toNat * m)).take m) else none
   | _,_=>none
  | none=>none
 | _,_=>none
def tMap (P:Program) (t:TypeId):Option (TypeId×TypeId) :=
 match P.underlying t with
 | some (.map k e)=>some (k,e)
 | _=>none
theorem ynq {P:Program} {t k e:TypeId} (h:tMap P t=some (k,e)):P.underlying t=some (.map k e):=by
 unfold tMap at h
 split at h
 · cases h;assumption
 · cases h
inductive KeyQ
 | txt (s:ByteArray)
 | two (a b:ByteArray)
def KeyQ.val:KeyQ→Value
 | .txt s=>.string s
 | .two a b=>.agg #[.string a,.string b]
def KeyQ.is:KeyQ→Value→Bool
 | .txt s,.string x=>s.toList==x.toList
 | .two a b,.agg us=>match us.toList with
  | [.string x,.string y]=>(a.toList==x.toList)&&(b.toList==y.toList)
  | _=>false
 | _,_=>false
def KeyQ.like:KeyQ→Value→Bool
 | .txt _,.string _=>true
 | .two _ _,.agg us=>match us.toList with
  | [.string _,.string _]=>true
  | _=>false
 | _,_=>false
def KeyQ.okT (P:Program) (t:TypeId):KeyQ→Bool
 | .txt _=>tStr P t
 | .two _ _=>tFlat P t==some [1,1]
def keyQ:AV→Option KeyQ
 | .v (.string s)=>some (.txt s)
 | .agg [.v (.string a),.v (.string b)]=>some (.two a b)
 | _=>none
def findQ (k:KeyQ):List MapEntry→Nat→Option (Nat×Value)
 | [],_=>none
 | e::es,i=>if k.is e.key=true then some (i,e.val) else findQ k es (i+1)
def qget (es:Array MapEntry) (k:KeyQ):Option Value:=(findQ k es.toList 0).map (·.2)
def qM (es:Array MapEntry) (k:KeyQ):Bool:=es.toList.all fun e=>k.like e.key
def zqr (P:Program) (t:TypeId) (ok:Bool) (es:Array MapEntry):AV→Option AV
 | .v (.int .i64 n)=>(tMap P t).bind fun x=>if tInt P x.1=some .i64∧intM es=true then
  (tZero P x.2).map fun z=>if ok=true then .tup [.v ((mget es n).getD z),.v (.bool (mget es n).isSome)] else .v ((mget es n).getD z) else none
 | q=>(keyQ q).bind fun k=>(tMap P t).bind fun x=>if k.okT P x.1=true∧qM es k=true then
  (tZero P x.2).map fun z=>if ok=true then .tup [.v ((qget es k).getD z),.v (.bool (qget es k).isSome)] else .v ((qget es k).getD z) else none
def yrs (P:Program) (t:TypeId):Option AV :=
 match tZero P t,tElem P t with
 | some z,some e=>match z with
  | .slice none 0 0=>(tSize P e).map fun n=>.lst n []
  | z=>some (.v z)
 | some z,none=>some (.v z)
 | none,_=>none
def getM (m:Int→Option AV) (z:AV) (n:Int):AV:=(m n).getD z
def hasM (m:Int→Option AV) (n:Int):Bool:=(m n).isSome
def lookM (P:Program) (t:TypeId) (ok:Bool) (m:Int→Option AV):AV→Option AV
 | .v (.int .i64 n)=>(tMap P t).bind fun x=>if tInt P x.1=some .i64 then
  (yrs P x.2).map fun z=>if ok=true then .tup [getM m z n,.v (.bool (hasM m n))] else getM m z n else none
 | _=>none
def zqu (P:Program) (st:St) (t:TypeId) (ok:Bool) (p q:AV):Option AV :=
 match p with
 | .mapv es _=>zqr P t ok es q
 | .amapv m=>lookM P t ok m q
 | .ref id k=>if k=st.ver id then
  match st.h id with
  | .map es _=>zqr P t ok es q
  | .amap m=>lookM P t ok m.f q
  | _=>none
  else none
 | _=>none
def lenAV (P:Program) (st:St) (t:TypeId):AV→Option AV
 | .lst _ xs=>(tElem P t).map fun _=>.v (.int .i64 xs.length)
 | .ref id k=>if k=st.ver id then
  match st.h id with
  | .arr _ _ xs=>(tElem P t).map fun _=>.v (.int .i64 xs.length)
  | .map es _=>(tMap P t).map fun _=>.v (.int .i64 es.size)
  | _=>none
  else none
 | .osl id k lo hi _=>if k=st.ver id then
  match st.h id with
  | .arr _ _ xs=>if lo≤hi∧hi≤xs.length then (tElem P t).map fun _=>.v (.int .i64 ((hi - lo:Nat):Int)) else none
  | _=>none
  else none
 | .v (.slice _ n _)=>(tElem P t).map fun _=>.v (.int .i64 n)
 | .v (.string s)=>if tStr P t=true then some (.v (.int .i64 s.size)) else none
 | _=>none
def zfg (st:St) (d:Nat):Option Operand→Option Nat
 | none=>some d
 | some x=>match st.ev x with
  | .v (.int _ i)=>if 0≤i then some i.toNat else none
  | _=>none
def yi9 (P:Program) (st:St) (t:TypeId) (lo hi mx:Option Operand):AV→Option AV
 | .v (.string s)=>if tStr P t=true∧mx.isNone=true then
  match zfg st 0 lo,zfg st s.size hi with
  | some l,some h=>if l≤h∧h≤s.size then some (.v (.string (s.extract l h))) else none
  | _,_=>none
  else none
 | .lst sz xs=>if ((tElem P t).bind (tSize P))=some sz then
  match zfg st 0 lo,zfg st xs.length hi with
  | some l,some h =>
   if l≤h∧h≤xs.length then
    match mx with
    | none=>some (.lst sz ((xs.drop l).take (h - l)))
    | some _=>match hi,zfg st 0 mx with
     | some _,some m=>if h≤m∧m≤xs.length then some (if m=h then .full sz ((xs.drop l).take (h - l)) else .lst sz ((xs.drop l).take (h - l))) else none
     | _,_=>none
   else none
  | _,_=>none
  else none
 | .ref id k=>if k=st.ver id then
  match st.h id with
  | .arr _ sz xs=>if ((tElem P t).bind (tSize P))=some sz then
   match zfg st 0 lo,zfg st xs.length hi with
   | some l,some h=>if l≤h∧h≤xs.length then
    match mx with
    | none=>some (.osl id k l h false)
    | some _=>match hi,zfg st 0 mx with
     | some _,some m=>if m=h then some (.osl id k l h true) else none
     | _,_=>none
    else none
   | _,_=>none
   else none
  | _=>none
  else none
 | .eptr cs j=>(tArr P t).bind fun x=>if x.2=1∧mx.isNone=true∧j+x.1≤cs.length∧x.1≤maxLen∧cs.all isV=true then
  match zfg st 0 lo,zfg st x.1 hi with
  | some l,some h=>if l≤h∧h≤x.1 then some (.lst 1 ((cs.drop (j+l)).take (h - l))) else none
  | _,_=>none
  else none
 | _=>none
def minAV:AV→AV→Option AV
 | .v (.int k x),.v (.int _ y)=>some (.v (.int k (if y < x then y else x)))
 | _,_=>none
def maxAV:AV→AV→Option AV
 | .v (.int k x),.v (.int _ y)=>some (.v (.int k (if y > x then y else x)))
 | _,_=>none
def tConc (P:Program) (t:TypeId):Bool :=
 match P.underlying t with
 | some (.interface _)=>false
 | some _=>true
 | none=>false
theorem yhe {P:Program} {t:TypeId} (h:tConc P t=true) (x:Value) (w:World):(Instr.makeInterface t x).run P w=.ok (.iface t x) w:=by
 unfold tConc at h
 split at h
 · cases h
 · rename_i d hi hd
   unfold Instr.makeInterface
   rw[Sem.run_bind,run_underlying hd w]
   cases d with
   | interface ms=>exact (hi ms rfl).elim
   | _=>rfl
 · cases h
def sureP (st:St):AV→Option AV
 | .eptr cs j=>some (.eptr cs j)
 | .rptr id k i j=>if k=st.ver id then some (.rptr id k i j) else none
 | _=>none
def evalV (P:Program) (st:St):Op→Option AV
 | .nilCheck x=>sureP st (st.ev x)
 | .makeInterface t x=>if tConc P t=true then some (.iface t (st.ev x)) else none
 | .move x|.assign x=>some (st.ev x)
 | .pick c x y=>match st.ev c with
  | .v (.bool t)=>some (if t then st.ev x else st.ev y)
  | _=>none
 | .load t x=>ldAV P st t (st.ev x)
 | .binOp op t x y _=>binAV P op t (st.ev x) (st.ev y)
 | .unOp op _ x=>unAV op (st.ev x)
 | .convert s d x=>if (P.underlying s).isSome then zhg P s d (st.ev x) else none
 | .makeFunc f first captured=>some (.fn f (first.toList.map st.ev) (captured.toList.map st.ev))
 | .fieldAddr t x f=>zju P st t f (st.ev x)
 | .field t x f=>zjs P t f (st.ev x)
 | .indexAddr t x i=>zod P st t (st.ev x) (st.ev i)
 | .index t x i=>zob P t (st.ev x) (st.ev i)
 | .extract x i=>match st.ev x with
  | .tup cs=>cs[i]?
  | _=>none
 | .slice t x lo hi mx=>yi9 P st t lo hi mx (st.ev x)
 | .lookup t m k ok=>zqu P st t ok (st.ev m) (st.ev k)
 | .call c=>match c.callee with
  | .builtin .len=>match c.args.toList,c.argTypes.toList with
   | [x],[t]=>lenAV P st t (st.ev x)
   | _,_=>none
  | .builtin .min=>match c.args.toList with
   | [x,y]=>minAV (st.ev x) (st.ev y)
   | _=>none
  | .builtin .max=>match c.args.toList with
   | [x,y]=>maxAV (st.ev x) (st.ev y)
   | _=>none
  | _=>none
 | _=>none
section
variable {G:Ctx} {st:St} {E:Env} {a:Act}
theorem VR.v_inv {x y:Value} (h:VR E (.v x) y):y=x:=by cases h;rfl
theorem ziy (P:Program) (op:BinOp) (t:TypeId) (x y:Operand) (j k:IntKind) (m n:Int) (w:World):(eqGuard op t x y (.int j m) (.int k n)).run P w=.ok () w:=by
 unfold eqGuard;split<;>simp
theorem zi0 (P:Program) (op:BinOp) (t:TypeId) (x y:Operand) (m n:ByteArray) (w:World):(eqGuard op t x y (.string m) (.string n)).run P w=.ok () w:=by
 unfold eqGuard;split<;>simp
theorem zix (P:Program) (op:BinOp) (t:TypeId) (x y:Operand) (m n:Bool) (w:World):(eqGuard op t x y (.bool m) (.bool n)).run P w=.ok () w:=by
 unfold eqGuard;split<;>simp
theorem yhj {P:Program} {t:TypeId} {k:Nat} (h:fKind P t=some k) (us:Array Value) (i:Nat) (hi:i < us.size) (w:World):(part t us i).run P w=.ok (us.getD i undef) w:=by
 have ha:tAgg P t=some false:=by
  unfold fKind at h;unfold tAgg
  split at h<;>first|(rename_i hu;simp[hu];done)|cases h
 simp[part,yhd ha,hi]
theorem ziw {P:Program} {w:World} {E:Env} (d:Nat) (us vs:Array Value):∀ (fs:List Field) (i:Nat) (ks:List Nat) (ps qs:List AV) (b:Bool),fs.map (·.offset)=List.range' i fs.length→(fs.all fun f=>f.name != "_")=true→(fs.mapM fun f=>fKind P f.type)=some ks →
 (∀ (j:Nat) p,ps[j]? = some p→i+j < us.size∧VR E p (us.getD (i+j) undef))→(∀ (j:Nat) p,qs[j]? = some p→i+j < vs.size∧VR E p (vs.getD (i+j) undef))→zi1 ks ps qs=some b→(Op.eqFields (d+1) us vs fs).run P w=.ok b w
 | [],i,ks,ps,qs,b,_,_,hk,_,_,h=>by
  simp at hk;subst hk
  cases ps<;>cases qs<;>simp[zi1]at h
  subst h;simp[Op.eqFields]
 | f::fs,i,ks,ps,qs,b,ho,hn,hk,hp,hq,h=>by
  simp only[List.mapM_cons,Option.bind_eq_bind,Option.bind_eq_some_iff,Option.pure_def,Option.some.injEq]at hk
  obtain⟨k,hk0,ks',hks,rfl⟩:=hk
  simp only[List.map_cons,List.length_cons,List.range'_succ,List.cons.injEq]at ho
  simp only[List.all_cons,Bool.and_eq_true,bne_iff_ne,ne_eq]at hn
  have step:∀ (p q:AV) (ps' qs':List AV) (x y:Value) (c b':Bool),ps=p::ps'→qs=q::qs'→us.getD i undef=x→vs.getD i undef=y→(Op.equalIn (d+1) f.type x y).run P w=.ok c w→zi1 ks' ps' qs'=some b'→(Op.eqFields (d+1) us vs (f::fs)).run P w=.ok (c&&b') w:=by
   intro p q ps' qs' x y c b' hps hqs hx hy hc hb'
   subst hps;subst hqs
   have h1:=(hp 0 p rfl).1
   have h2:=(hq 0 q rfl).1
   have ih:=ziw (E:=E) (w:=w) d us vs fs (i+1) ks' ps' qs' b' ho.2 hn.2 hks (fun j p hj=>by have:=hp (j+1) p (by simpa using hj);rwa [show i+(j+1)=i+1+j from by omega]at this) (fun j p hj=>by have:=hq (j+1) p (by simpa using hj);rwa [show i+(j+1)=i+1+j from by omega]at this) hb'
   unfold Op.eqFields
   rw[if_pos hn.1,Sem.run_bind,ho.1,yhj hk0 us i (by simpa using h1),Result.andThen_ok,Sem.run_bind,yhj hk0 vs i (by simpa using h2),Result.andThen_ok,Sem.run_bind,hx,hy,hc,Result.andThen_ok]
   cases c
   · simp
   · simpa using ih
  unfold zi1 at h
  split at h
  · cases ‹_::_=[]›
  · rename_i ks0 k1 x ps' k2 y qs' he
    obtain⟨rfl,rfl⟩:=List.cons.inj he
    split at h
    · rename_i hkk
      subst hkk
      obtain⟨b',hb',rfl⟩:=Option.map_eq_some_iff.1 h
      have hu:∃ kk,P.underlying f.type=some (.int kk):=by
       unfold fKind at hk0;split at hk0<;>first|exact⟨_,‹_›⟩|cases hk0
      obtain⟨kk,hu⟩:=hu
      exact step _ _ _ _ _ _ _ _ rfl rfl (by have:=(hp 0 _ rfl).2;rw[Nat.add_zero]at this;exact this.v_inv) (by have:=(hq 0 _ rfl).2;rw[Nat.add_zero]at this;exact this.v_inv) (run_equalIn_int w d f.type k1 kk x y hu) hb'
    · cases h
  · rename_i ks0 x ps' y qs' he
    obtain⟨rfl,rfl⟩:=List.cons.inj he
    obtain⟨b',hb',rfl⟩:=Option.map_eq_some_iff.1 h
    have hu:P.underlying f.type=some .string:=by
     unfold fKind at hk0;split at hk0<;>first|assumption|cases hk0
    exact step _ _ _ _ _ _ _ _ rfl rfl (by have:=(hp 0 _ rfl).2;rw[Nat.add_zero]at this;exact this.v_inv) (by have:=(hq 0 _ rfl).2;rw[Nat.add_zero]at this;exact this.v_inv) (run_equalIn_string w d f.type x y hu) hb'
  · rename_i ks0 x ps' y qs' he
    obtain⟨rfl,rfl⟩:=List.cons.inj he
    obtain⟨b',hb',rfl⟩:=Option.map_eq_some_iff.1 h
    have hu:P.underlying f.type=some .bool:=by
     unfold fKind at hk0;split at hk0<;>first|assumption|cases hk0
    exact step _ _ _ _ _ _ _ _ rfl rfl (by have:=(hp 0 _ rfl).2;rw[Nat.add_zero]at this;exact this.v_inv) (by have:=(hq 0 _ rfl).2;rw[Nat.add_zero]at this;exact this.v_inv) (run_equalIn_bool' w d f.type x y hu) hb'
  · cases h
theorem zi3 {P:Program} {op:BinOp} {t:TypeId} {xs ys:List AV} {us vs:Array Value} {ox oy:Operand} {ks:List Nat} {b:Bool} {r:AV} {E:Env} (ht:tFlat P t=some ks) (hb:zi1 ks xs ys=some b) (hr:eqOp op b=some r) (hx:VR E (.agg xs) (.agg us)) (hy:VR E (.agg ys) (.agg vs)) :
 ∃ z,(do eqGuard op t ox oy (.agg us) (.agg vs);binOp op t (.agg us) (.agg vs):Sem Value).run P E.w=.ok z E.w∧VR E r z:=by
 unfold tFlat at ht
 split at ht
 case h_2=>cases ht
 rename_i fs hu
 split at ht
 case isFalse=>cases ht
 rename_i hc
 obtain⟨h1,h2,h3,h4⟩:=hc
 have hfs:P.fieldsOf t=fs:=by simp[Program.fieldsOf,hu]
 have hcells:∀ {cs:List AV} {ws:Array Value},VR E (.agg cs) (.agg ws)→∀ (j:Nat) p,cs[j]? = some p→0+j < ws.size∧VR E p (ws.getD (0+j) undef):=by
  intro cs ws h j p hj
  cases h with
  | agg _ _ hl hv=>rw[Nat.zero_add];exact⟨by rw[← hl];exact (List.getElem?_eq_some_iff.1 hj).1,hv j p hj⟩
 have hrun:(Op.equalIn 10000 t (.agg us) (.agg vs)).run P E.w=.ok b E.w:=by
  rw[show (10000:Nat)=9999+1 from rfl,run_equalIn_struct E.w 9999 t us vs (by rw[hfs];exact hu) h1,hfs]
  exact ziw (E:=E) 9998 us vs fs.toList 0 ks xs ys b h3 h4 ht (hcells hx) (hcells hy) hb
 rw[Sem.run_bind,run_eqGuard_agg _ _ _ _ _ _ _ h2]
 cases op<;>simp only[eqOp,Option.some.injEq,reduceCtorEq]at hr
 · subst hr;exact⟨_,by rw[Result.andThen_ok,run_eql_struct,hrun];rfl,.v _⟩
 · subst hr;exact⟨_,by rw[Result.andThen_ok,run_neq_struct,hrun];rfl,.v _⟩
theorem yi3 {P:Program} {op:BinOp} {k k':IntKind} {t:TypeId} {m n:Int} {r:AV} {w:World} {E:Env} (h:yi2 op k m n=some r) :
 ∃ z,(binOp op t (.int k m) (.int k' n)).run P w=.ok z w∧VR E r z:=by
 unfold yi2 at h
 split at h
 · cases h
 · rename_i h0
   cases op<;>simp only[Option.some.injEq,reduceCtorEq]at h
   · subst h;exact⟨_,by simp only[binOp,Op.shift];rw[if_neg h0];rfl,.v _⟩
   · subst h;exact⟨_,by simp only[binOp,Op.shift];rw[if_neg h0];rfl,.v _⟩
theorem yha {P:Program} {w:World} {t e:TypeId} (p:Option Addr) (he:P.underlying t=some (.pointer e)):(Op.equal t (.pointer p) (.pointer none)).run P w=.ok p.isNone w:=by
 unfold Op.equal Op.maxDepth
 rw[Op.equalIn,Sem.run_bind,run_underlying he w]
 cases p<;>rfl
theorem ziz (P:Program) (op:BinOp) (t:TypeId) (x y:Operand) (a b:Option Addr) (w:World):(eqGuard op t x y (.pointer a) (.pointer b)).run P w=.ok () w:=by
 unfold eqGuard;split<;>rfl
theorem zi2 {P:Program} {w:World} {E:Env} {op:BinOp} {t e:TypeId} {ox oy:Operand} {r:AV} (he:P.underlying t=some (.pointer e)) (p:Option Addr) (h:eqOp op p.isNone=some r) :
 ∃ z,(do eqGuard op t ox oy (.pointer p) (.pointer none);binOp op t (.pointer p) (.pointer none):Sem Value).run P w=.ok z w∧VR E r z:=by
 rw[Sem.run_bind,ziz,Result.andThen_ok]
 cases op<;>simp only[eqOp,Option.some.injEq,reduceCtorEq]at h
 · subst h
   refine⟨_,?_,.v _⟩
   simp only[binOp]
   rw[Sem.run_bind,yha p he];rfl
 · subst h
   refine⟨_,?_,.v _⟩
   simp only[binOp]
   rw[Sem.run_bind,yha p he];rfl
theorem zev {P:Program} {op:BinOp} {t:TypeId} {p q r:AV} {x y:Value} {ox oy:Operand} (hx:VR E p x) (hy:VR E q y) (h:binAV P op t p q=some r) :
 ∃ z,(do eqGuard op t ox oy x y;binOp op t x y:Sem Value).run P E.w=.ok z E.w∧VR E r z:=by
 unfold binAV at h
 split at h
 · rename_i xs ys
   obtain⟨ks,hks,h⟩:=Option.bind_eq_some_iff.1 h
   obtain⟨b,hb,h⟩:=Option.bind_eq_some_iff.1 h
   cases hx with
   | agg _ us hl1 hc1 =>
    cases hy with
    | agg _ vs hl2 hc2=>exact zi3 hks hb h (.agg _ us hl1 hc1) (.agg _ vs hl2 hc2)
 · rename_i k m k' n
   cases hx.v_inv;cases hy.v_inv
   split at h
   · rename_i hk
     subst hk
     rw[Sem.run_bind,ziy,Result.andThen_ok]
     cases op
     case shl=>exact yi3 h
     case shr =>
      simp only[zon]at h
      split at h
      · rename_i h1
        subst h1
        cases h
        exact⟨_,by simp only[binOp,Op.shift];rw[if_neg (by decide)];cases k<;>rfl,.v _⟩
      · exact yi3 h
     all_goals
      simp only[zon,Option.some.injEq,reduceCtorEq]at h<;>(try subst h)<;>(try (split at h<;>first|(cases h;done)|(cases h))) <;>
      first
      | exact⟨_,by simp[binOp,Op.intArith,Op.intCmp,Op.intDiv,Op.intBits,andI,orI,xorI,zcu, *];rfl,.v _⟩
      | exact⟨_,by simp[binOp,Op.intArith,Op.intCmp,Op.intDiv,Op.intBits,andI,orI,xorI,zcu, *],.v _⟩
   · rw[Sem.run_bind,ziy,Result.andThen_ok]
     exact yi3 h
 · rename_i cs j
   split at h
   case isFalse=>cases h
   rename_i hp
   obtain⟨e,he⟩:=yoh hp
   cases hy.v_inv
   cases hx with
   | eptr _ _ b off u hS h1 h2=>exact zi2 he (some ⟨b,off+j,none⟩) h
 · split at h
   case isFalse=>cases h
   rename_i hp
   obtain⟨e,he⟩:=yoh hp
   cases hx.v_inv;cases hy.v_inv
   exact zi2 he none h
 · cases hx.v_inv;cases hy.v_inv
   rw[Sem.run_bind,zi0]
   cases op<;>simp only[ykz,Option.some.injEq,reduceCtorEq]at h<;>(try subst h)<;>(try (split at h<;>first|(cases h;done)|(cases h))) <;>
    first
    | exact⟨_,by simp only[binOp,Op.stringOp,Result.andThen_ok];rw[if_neg (by assumption)];rfl,.v _⟩
    | exact⟨_,by simp[binOp,Op.stringOp];rfl,.v _⟩
    | exact⟨_,by simp[binOp,Op.stringOp],.v _⟩
 · cases hx.v_inv;cases hy.v_inv
   rw[Sem.run_bind,zix]
   unfold ze8 at h
   split at h
   · rename_i hu
     cases op<;>simp only[Option.some.injEq,reduceCtorEq]at h<;>subst h <;>
      first
      | exact⟨_,by simp[binOp,run_equal_bool E.w t _ _ hu],.v _⟩
      | exact⟨_,by simp[binOp,run_equal_bool E.w t _ _ hu];rfl,.v _⟩
   · cases h
 · cases h
theorem ypd {P:Program} {op:UnOp} {p r:AV} {x:Value} (hx:VR E p x) (h:unAV op p=some r):∃ z,(Op.unary op x).run P E.w=.ok z E.w∧VR E r z:=by
 unfold unAV at h
 split at h
 · cases hx.v_inv
   cases op<;>simp only[Option.some.injEq,reduceCtorEq]at h
   subst h;exact⟨_,by simp[Op.unary],.v _⟩
 · cases hx.v_inv
   cases op<;>simp only[Option.some.injEq,reduceCtorEq]at h
   · subst h;exact⟨_,by simp[Op.unary,Op.intArith],.v _⟩
   · subst h;exact⟨_,by simp[Op.unary,Op.intBits,xorI],.v _⟩
 · cases h
theorem zfl:∀ (xs:List AV) (ns:List Int),xs.mapM zfk=some ns→ns.length=xs.length∧∀ i,i < xs.length→xs[i]? = some (.v (.int .u8 (ns.getD i 0)))
 | [],ns,h=>by cases h;exact⟨rfl,fun i hi=>by simp at hi⟩
 | x::xs,ns,h=>by
  rw[List.mapM_cons]at h
  cases hx:zfk x with
  | none=>rw[hx]at h;cases h
  | some n =>
   cases hr:xs.mapM zfk with
   | none=>rw[hx,hr]at h;cases h
   | some ms =>
    rw[hx,hr]at h
    have hn:ns=n::ms:=by cases h;rfl
    subst hn
    obtain⟨h1,h2⟩:=zfl xs ms hr
    refine⟨by simp[h1],fun i hi=>?_⟩
    cases i with
    | zero =>
     have:x=.v (.int .u8 n):=by
      unfold zfk at hx
      split at hx
      · cases hx;rfl
      · cases hx
     simp[this]
    | succ i =>
     simp only[List.length_cons]at hi
     simpa using h2 i (by omega)
theorem zhh {P:Program} {s d:TypeId} {p r:AV} {x:Value} (hs:(P.underlying s).isSome=true) (hx:VR E p x) (h:zhg P s d p=some r) :
 ∃ z,(convert s d x).run P E.w=.ok z E.w∧VR E r z:=by
 unfold zhg at h
 split at h
 · cases hx.v_inv
   obtain⟨k,hk,rfl⟩:=Option.map_eq_some_iff.1 h
   obtain⟨ds,hds⟩:=Option.isSome_iff_exists.mp hs
   exact⟨_,by simp[convert,run_underlying hds,run_underlying (ynp hk),Conv.intToInt],.v _⟩
 · rename_i xs
   split at h
   case isFalse=>cases h
   rename_i hc
   obtain⟨e,he,hse⟩:=Option.bind_eq_some_iff.1 hc.1
   obtain⟨ns,hns,rfl⟩:=Option.map_eq_some_iff.1 h
   have hsu:=ylr he
   have heu:=ynp hse
   have hdu:=yoj hc.2
   obtain⟨hlen,hbytes⟩:=zfl xs ns hns
   cases hx with
   | lst _ _ b off cap u hS h1 h2 h3 h4 h5 =>
    refine⟨_,run_convert_bytes_arg E.w s e hsu heu b off xs.length cap ns hlen (fun i hi=>?_) d hdu,.v _⟩
    have hx:=hbytes i hi
    have hc:=h3 i (by omega)
    rw[hc]
    have:=h5 i _ 0 (.v (.int .u8 (ns.getD i 0))) hx rfl
    rw[Nat.mul_one,Nat.add_zero]at this
    rw[this.v_inv]
   | lstNil =>
    have:ns=[]:=List.eq_nil_of_length_eq_zero (by simpa using hlen)
    subst this
    exact⟨_,by rw[run_convert_bytes_nil E.w s e hsu heu 0 0 d hdu];rfl,.v _⟩
   | lstNo _ cap ad _ =>
    have:ns=[]:=List.eq_nil_of_length_eq_zero (by simpa using hlen)
    subst this
    exact⟨_,by rw[run_convert_bytes_string E.w s d e _ 0 cap hsu heu hdu,run_bytesToString E.w ad 0 cap [] (by simp[loadCells,loadCellsFrom])];rfl,.v _⟩
 · cases h
theorem yno {P:Program} {t:TypeId} {f off:Nat} {u:TypeId} (h:yls P t f=some (off,u)) :
 ∃ fs x n,P.underlying t=some (.struct fs)∧fs[f]? = some x∧x.offset=off∧x.type=u∧tSize P u=some (n+1):=by
 unfold yls at h
 split at h
 · rename_i fs hu
   split at h
   · rename_i x hx
     split at h
     · rename_i n hn
       cases h
       exact⟨fs,x,n,hu,hx,rfl,rfl,hn⟩
     · cases h
   · cases h
 · cases h
theorem zjv (hr:Rel G st E a) {t:TypeId} {f:Nat} {p r:AV} {x:Value} (hx:VR E p x) (h:zju G.P st t f p=some r) :
 ∃ z,(Instr.fieldAt t x f).run G.P E.w=.ok z E.w∧VR E r z:=by
 unfold zju at h
 split at h
 · obtain⟨⟨off,u⟩,ho,rfl⟩:=Option.map_eq_some_iff.1 h
   obtain⟨fs,y,n,hu,hy,rfl,rfl,hs⟩:=yno ho
   cases hx with
   | eptr _ _ b off' u' h0 h1 h2 =>
    refine⟨_,?_,.eptr _ (_+y.offset) b off' u' h0 h1 h2⟩
    simp[Instr.fieldAt,run_underlying hu,hy,Instr.sureAddr,fieldPlace,yhn hs,zbr,Nat.add_assoc]
 · rename_i id k i j
   split at h
   case isFalse=>cases h
   rename_i hk
   obtain⟨⟨off,u⟩,ho,rfl⟩:=Option.map_eq_some_iff.1 h
   obtain⟨fs,y,n,hu,hy,rfl,rfl,hs⟩:=yno ho
   cases hx with
   | rptr _ _ _ _ _ h1 h2 =>
    have hx:=h2 (by rw[hr.ver];exact hk)
    subst hx
    refine⟨_,?_,.rptr id k i (j+y.offset) _ h1 fun _=>rfl⟩
    simp[Instr.fieldAt,run_underlying hu,hy,Instr.sureAddr,fieldPlace,yhn hs,zbr,Nat.add_assoc]
 · cases h
theorem zjt {P:Program} {t:TypeId} {f:Nat} {p r:AV} {x:Value} (hx:VR E p x) (h:zjs P t f p=some r) :
 ∃ z,(Instr.field t x f).run P E.w=.ok z E.w∧VR E r z:=by
 unfold zjs at h
 split at h
 · rename_i cs
   split at h
   · rename_i off u ho
     obtain⟨fs,y,n,hu,hy,rfl,rfl,hs⟩:=yno ho
     split at h
     · rename_i b m hb hm
       split at h
       · rename_i hle
         cases hx with
         | agg _ us hl hc =>
          cases b with
          | true =>
           simp only[mkAV,Option.some.injEq]at h
           subst h
           refine⟨.agg (us.extract y.offset (y.offset+m)),?_,.agg _ _ ?_ ?_⟩
           · simp[Instr.field,run_underlying hu,hy,asAgg,part,yhd hb,yhn hm]
           · simp;omega
           · intro i c hi
             simp only[List.getElem?_take,List.getElem?_drop]at hi
             split at hi
             · rename_i him
               have:=hc _ c hi
               have hlt:y.offset+i < us.size:=by rw[← hl];exact (List.getElem?_eq_some_iff.1 hi).1
               have e:(us.extract y.offset (y.offset+m)).getD i undef=us.getD (y.offset+i) undef:=by
                simp[Array.getD_eq_getD_getElem?,Array.getElem?_extract]
                rw[if_pos (by omega)]
               rw[e];exact this
             · cases hi
          | false =>
           simp only[mkAV]at h
           split at h
           · rename_i c hcs
             have hcr:c=r:=by simpa using h
             subst hcr
             have hc1:cs[y.offset]? = some c:=by
              have:=congrArg (fun l=>l[0]?) hcs
              simp only[List.getElem?_take,List.getElem?_drop]at this
              split at this
              · simpa using this
              · simp at this
             have hlt:y.offset < us.size:=by rw[← hl];exact (List.getElem?_eq_some_iff.1 hc1).1
             refine⟨us.getD y.offset undef,?_,hc _ c hc1⟩
             simp[Instr.field,run_underlying hu,hy,asAgg,part,yhd hb,hlt]
           · cases h
       · cases h
     · cases h
   · cases h
 · cases h
theorem zoe (hr:Rel G st E a) {t:TypeId} {p q r:AV} {x y:Value} (hx:VR E p x) (hy:VR E q y) (h:zod G.P st t p q=some r) :
 ∃ z,(Instr.indexAt t x y).run G.P E.w=.ok z E.w∧VR E r z:=by
 unfold zod at h
 split at h
 · rename_i sz xs k i
   cases hy.v_inv
   split at h
   case isFalse=>cases h
   rename_i hc
   obtain⟨hsz,h0,hlt⟩:=hc
   obtain⟨e,he,hse⟩:=Option.bind_eq_some_iff.1 hsz
   obtain⟨c,hc,rfl⟩:=Option.map_eq_some_iff.1 h
   cases hx with
   | lst _ _ b off cap u hS h1 h2 h3 h4 h5 =>
    have hi:i.toNat < xs.length:=by omega
    have hcl:=h4 _ c hc
    have hmul:i.toNat * sz+sz≤xs.length * sz:=by rw[← Nat.succ_mul];exact Nat.mul_le_mul_right _ hi
    refine⟨.pointer (some ⟨b,off+i.toNat * sz,none⟩),?_,?_⟩
    · simp only[Instr.indexAt,asIntOf,Sem.run_bind,Sem.run_pure,Result.andThen_ok,run_underlying (ylr he),Bool.and_false,Bool.false_eq_true,if_false]
      rw[if_pos ⟨h0,hlt⟩]
      simp[yhn hse,zbr]
    · have:=VR.eptr (E:=E) c.cells 0 b (off+i.toNat * sz) (fun k=>u (i.toNat * sz+k)) hS (fun k hk=>by rw[Nat.add_assoc];exact h3 _ (by omega)) (fun k d hd=>h5 _ c k d hc hd)
      simpa using this
   | lstNil=>simp at hc
   | lstNo _ _ _ _=>simp at hc
 · rename_i id k k' i
   cases hy.v_inv
   split at h
   case isFalse=>cases h
   rename_i hk
   split at h
   · rename_i e' sz xs hh
     split at h
     case isFalse=>cases h
     rename_i hc
     obtain⟨hsz,h0,hlt⟩:=hc
     obtain⟨e,he,hse⟩:=Option.bind_eq_some_iff.1 hsz
     cases h
     cases hx with
     | ref _ _ _ h1 h2 =>
      have hx:=h2 (by rw[hr.ver];exact hk)
      subst hx
      have hb:=hr.blocks id
      rw[hh]at hb
      obtain⟨hsz',us,hown,hlen,hvs,hblk⟩:=hb
      rcases hown.2 with ⟨hv,hn⟩|⟨g,cap,cur,hv,hg⟩
      · omega
      · have hg1:=(hblk g (by rw[hv];rfl)).1
        refine⟨.pointer (some ⟨(E.own id).blk,i.toNat * (E.own id).sz+0,none⟩),?_,.rptr id k i.toNat 0 _ h1 fun _=>rfl⟩
        rw[hv]
        simp only[Instr.indexAt,asIntOf,Sem.run_bind,Sem.run_pure,Result.andThen_ok,run_underlying (ylr he),Bool.and_false,Bool.false_eq_true,if_false]
        rw[if_pos ⟨h0,hlt⟩]
        simp[yhn hse,zbr,hsz',hg1]
   · cases h
 · rename_i id k lo hi f k' i
   cases hy.v_inv
   split at h
   case isFalse=>cases h
   rename_i hk
   split at h
   · rename_i e' sz xs hh
     split at h
     case isFalse=>cases h
     rename_i hc
     obtain⟨hsz,h0,hlt,hhx⟩:=hc
     obtain⟨e,he,hse⟩:=Option.bind_eq_some_iff.1 hsz
     cases h
     cases hx with
     | osl _ _ _ _ _ _ h1 h2 =>
      have hx:=h2 (by rw[hr.ver];exact hk)
      subst hx
      have hb:=hr.blocks id
      rw[hh]at hb
      obtain⟨hsz',us,hown,hlen,hvs,hblk⟩:=hb
      rcases hown.2 with ⟨hv,hn⟩|⟨g,cap,cur,hv,_,_,hnc,_⟩
      · omega
      · have hg1:=(hblk g (by rw[hv];rfl)).1
        have hne:¬ (if f=true then hi else cap)=lo:=by
         intro hc
         cases f<;>simp at hc<;>omega
        refine⟨.pointer (some ⟨(E.own id).blk,(lo+i.toNat) * (E.own id).sz+0,none⟩),?_,.rptr id k (lo+i.toNat) 0 _ h1 fun _=>rfl⟩
        rw[hv,ylg,if_neg hne]
        simp only[Instr.indexAt,asIntOf,Sem.run_bind,Sem.run_pure,Result.andThen_ok,run_underlying (ylr he),Bool.and_false,Bool.false_eq_true,if_false,Option.map_some]
        rw[if_pos ⟨h0,hlt⟩]
        simp[yhn hse,zbr,hsz',hg1,Nat.add_mul]
   · cases h
 · rename_i cs j' k i
   cases hy.v_inv
   obtain⟨⟨n,m⟩,hn,h⟩:=Option.bind_eq_some_iff.1 h
   obtain⟨e,hu,hse⟩:=ylj hn
   simp only at h
   split at h
   case isFalse=>cases h
   rename_i hc
   cases h
   cases hx with
   | eptr _ _ b off u h0 h1 h2 =>
    refine⟨_,?_,.eptr _ (j'+i.toNat * m) b off u h0 h1 h2⟩
    simp only[Instr.indexAt,asIntOf,Sem.run_bind,Sem.run_pure,Result.andThen_ok,run_underlying hu,Instr.sureAddr]
    rw[if_pos ⟨hc.1,hc.2⟩]
    simp[yhn hse,zbr,Nat.add_assoc]
 · rename_i id k n' j' k' i
   cases hy.v_inv
   split at h
   case isFalse=>cases h
   rename_i hk
   obtain⟨⟨n,m⟩,hn,h⟩:=Option.bind_eq_some_iff.1 h
   obtain⟨e,hu,hse⟩:=ylj hn
   simp only at h
   split at h
   case isFalse=>cases h
   rename_i hc
   cases h
   cases hx with
   | rptr _ _ _ _ _ h1 h2 =>
    have hx:=h2 (by rw[hr.ver];exact hk)
    subst hx
    refine⟨_,?_,.rptr id k n' (j'+i.toNat * m) _ h1 fun _=>rfl⟩
    simp only[Instr.indexAt,asIntOf,Sem.run_bind,Sem.run_pure,Result.andThen_ok,run_underlying hu,Instr.sureAddr]
    rw[if_pos ⟨hc.1,hc.2⟩]
    simp[yhn hse,zbr,Nat.add_assoc]
 · cases h
theorem zoc {P:Program} {t:TypeId} {p q r:AV} {x y:Value} (hx:VR E p x) (hy:VR E q y) (h:zob P t p q=some r) :
 ∃ z,(Instr.index t x y).run P E.w=.ok z E.w∧VR E r z:=by
 unfold zob at h
 split at h
 · cases hx.v_inv;cases hy.v_inv
   split at h
   case isFalse=>cases h
   rename_i hc
   obtain⟨b,hb,rfl⟩:=Option.map_eq_some_iff.1 h
   refine⟨_,?_,.v _⟩
   simp[Instr.index,asIntOf,run_underlying (yoj hc.1),hc.2,hb]
 · rename_i cs k i
   have hyv:=hy.v_inv
   subst hyv
   split at h
   case h_2=>cases h
   rename_i n e hte
   have hu:=tArrE_eq hte
   split at h
   case h_2=>cases h
   rename_i b m hb hm
   split at h
   case isFalse=>cases h
   rename_i hc
   obtain⟨h0,hn,hle⟩:=hc
   cases hx with
   | agg _ us hl hcv =>
    generalize hoff:i.toNat * m=off at h hle
    cases b with
    | true =>
     simp only[mkAV,Option.some.injEq]at h
     subst h
     refine⟨.agg (us.extract off (off+m)),?_,.agg _ _ ?_ ?_⟩
     · simp[Instr.index,asIntOf,run_underlying hu,h0,hn,part,yhd hb,yhn hm,hoff]
     · simp;omega
     · intro j c hi
       simp only[List.getElem?_take,List.getElem?_drop]at hi
       split at hi
       · rename_i him
         have:=hcv _ c hi
         have hlt:off+j < us.size:=by rw[← hl];exact (List.getElem?_eq_some_iff.1 hi).1
         have e:(us.extract off (off+m)).getD j undef=us.getD (off+j) undef:=by
          simp[Array.getD_eq_getD_getElem?,Array.getElem?_extract]
          rw[if_pos (by omega)]
         rw[e];exact this
       · cases hi
    | false =>
     simp only[mkAV]at h
     split at h
     · rename_i c hcs
       have hcr:c=r:=by simpa using h
       subst hcr
       have hc1:cs[off]? = some c:=by
        have:=congrArg (fun l=>l[0]?) hcs
        simp only[List.getElem?_take,List.getElem?_drop]at this
        split at this
        · simpa using this
        · simp at this
       have hlt:off < us.size:=by rw[← hl];exact (List.getElem?_eq_some_iff.1 hc1).1
       refine⟨us.getD off undef,?_,hcv _ c hc1⟩
       simp[Instr.index,asIntOf,run_underlying hu,h0,hn,part,yhd hb,yhn hm,hoff,hlt]
     · cases h
 · cases h
theorem zqg (hr:Rel G st E a) {t ty:TypeId} {p r:AV} {x:Value} (hx:VR E p x) (h:lenAV G.P st t p=some r) :
 ∃ z,(Builtin.len_ #[t] ty #[x]).run G.P E.w=.ok z E.w∧VR E r z:=by
 unfold lenAV at h
 split at h
 · obtain⟨e,he,rfl⟩:=Option.map_eq_some_iff.1 h
   cases hx with
   | lst _ _ b off cap u hS h1 h2 h3 h4 h5=>exact⟨_,by simp[Builtin.len_,run_underlying (ylr he)];rfl,.v _⟩
   | lstNil=>exact⟨_,by simp[Builtin.len_,run_underlying (ylr he)];rfl,.v _⟩
   | lstNo _ _ _ _=>exact⟨_,by simp[Builtin.len_,run_underlying (ylr he)];rfl,.v _⟩
 · rename_i id k
   split at h
   case isFalse=>cases h
   rename_i hk
   split at h
   · rename_i e' sz xs hh
     obtain⟨e,he,rfl⟩:=Option.map_eq_some_iff.1 h
     cases hx with
     | ref _ _ _ h1 h2 =>
      have hx:=h2 (by rw[hr.ver];exact hk)
      subst hx
      have hb:=hr.blocks id
      rw[hh]at hb
      obtain⟨hsz',us,hown,hlen,hvs,hblk⟩:=hb
      rcases hown.2 with ⟨hv,hn⟩|⟨g,cap,cur,hv,hg⟩
      · rw[hv,hn];exact⟨_,by simp[Builtin.len_,run_underlying (ylr he)];rfl,.v _⟩
      · rw[hv];exact⟨_,by simp[Builtin.len_,run_underlying (ylr he)];rfl,.v _⟩
   · rename_i es clk hh
     obtain⟨⟨kt,et⟩,he,rfl⟩:=Option.map_eq_some_iff.1 h
     cases hx with
     | ref _ _ _ h1 h2 =>
      have hx:=h2 (by rw[hr.ver];exact hk)
      subst hx
      have hb:=hr.blocks id
      rw[hh]at hb
      obtain⟨g1,g2,_⟩:=hb
      rw[g2]
      exact⟨_,by simp[Builtin.len_,run_underlying (ynq he),MapKept.run_getObj_map g1];rfl,.v _⟩
   · cases h
 · rename_i id k lo hi f
   split at h
   case isFalse=>cases h
   rename_i hk
   split at h
   · rename_i e' sz xs hh
     split at h
     case isFalse=>cases h
     rename_i hb0
     obtain⟨e,he,rfl⟩:=Option.map_eq_some_iff.1 h
     cases hx with
     | osl _ _ _ _ _ _ h1 h2 =>
      have hx:=h2 (by rw[hr.ver];exact hk)
      subst hx
      have hb:=hr.blocks id
      rw[hh]at hb
      obtain⟨hsz',us,hown,hlen,hvs,hblk⟩:=hb
      rcases hown.2 with ⟨hv,hn⟩|⟨g,cap,cur,hv,hg⟩
      · rw[hv,ylg];exact⟨_,by simp[Builtin.len_,run_underlying (ylr he)];rfl,.v _⟩
      · rw[hv,ylg];exact⟨_,by simp[Builtin.len_,run_underlying (ylr he)];rfl,.v _⟩
   · cases h
 · obtain⟨e,he,rfl⟩:=Option.map_eq_some_iff.1 h
   cases hx.v_inv
   exact⟨_,by simp[Builtin.len_,run_underlying (ylr he)];rfl,.v _⟩
 · cases hx.v_inv
   split at h
   case isFalse=>cases h
   rename_i hc
   cases h
   exact⟨_,by simp[Builtin.len_,run_underlying (yoj hc)];rfl,.v _⟩
 · cases h
theorem zfh (hr:Rel G st E a) {d b:Nat} {x:Option Operand} (h:zfg st d x=some b) :
 match x with
 | none=>b=d
 | some o=>∃ k i,a.eval o=.int k i∧0≤i∧b=i.toNat:=by
 unfold zfg at h
 cases x with
 | none=>simpa using h.symm
 | some o =>
  simp only at h ⊢
  have hv:=hr.ev o
  split at h
  · rename_i k i ho
    rw[ho]at hv
    split at h
    · rename_i h0;cases h;exact⟨k,i,hv.v_inv,h0,rfl⟩
    · cases h
  · cases h
theorem yho {P:Program} (k:IntKind) (i:Int) (y:Nat) (code:BoundsCode) (w:World) (h0:0≤i) (h1:i.toNat≤y):(Instr.sliceBound (.int k i) y code).run P w=.ok i.toNat w:=by
 simp only[Instr.sliceBound,asIntOf,Sem.run_bind,Sem.run_pure,Result.andThen_ok]
 rw[if_pos ⟨h0,by omega⟩]
 rfl
theorem yhp (hr:Rel G st E a) {isSlice:Bool} {len cap l h:Nat} {lo hi mx:Option Operand} (hl:zfg st 0 lo=some l) (hh:zfg st len hi=some h) (h1:l≤h) (h2:h≤len) (h3:len≤cap)
 (hm:mx=none∨∃ m,mx≠none∧hi≠none∧zfg st 0 mx=some m∧h≤m∧m≤len) :
 ∃ m,(Instr.sliceBounds isSlice len cap (lo.map a.eval) (hi.map a.eval) (mx.map a.eval)).run G.P E.w=.ok (l,h,m) E.w∧h≤m∧m≤cap∧(mx≠none→zfg st 0 mx=some m)∧(mx=none→m=cap):=by
 have hl':=zfh hr hl
 have hh':=zfh hr hh
 rcases hm with rfl|⟨m,hnm,hne,hmx,hm1,hm2⟩
 · refine⟨cap,?_,by omega,Nat.le_refl _,fun h=>absurd rfl h,fun _=>rfl⟩
   cases lo with
   | none =>
    simp only at hl';subst hl'
    cases hi with
    | none=>simp only at hh';subst hh';simp[Instr.sliceBounds]
    | some o =>
     obtain⟨k,i,ho,h0,rfl⟩:=hh'
     simp[Instr.sliceBounds,ho,yho k i cap _ E.w h0 (by omega)]
   | some o' =>
    obtain⟨k',i',ho',h0',rfl⟩:=hl'
    cases hi with
    | none=>simp only at hh';subst hh';simp[Instr.sliceBounds,ho',yho k' i' _ _ E.w h0' h1]
    | some o =>
     obtain⟨k,i,ho,h0,rfl⟩:=hh'
     simp[Instr.sliceBounds,ho,ho',yho k i cap _ E.w h0 (by omega),yho k' i' _ _ E.w h0' h1]
 · refine⟨m,?_,hm1,by omega,fun _=>hmx,fun h=>absurd h hnm⟩
   have hm':=zfh hr hmx
   cases mx with
   | none=>exact absurd rfl hnm
   | some om =>
    obtain⟨km,im,hom,h0m,rfl⟩:=hm'
    cases hi with
    | none=>exact absurd rfl hne
    | some o =>
     obtain⟨k,i,ho,h0,rfl⟩:=hh'
     cases lo with
     | none=>simp only at hl';subst hl';simp[Instr.sliceBounds,ho,hom,yho km im cap _ E.w h0m (by omega),yho k i _ _ E.w h0 hm1]
     | some o' =>
      obtain⟨k',i',ho',h0',rfl⟩:=hl'
      simp[Instr.sliceBounds,ho,ho',hom,yho km im cap _ E.w h0m (by omega),yho k i _ _ E.w h0 hm1,yho k' i' _ _ E.w h0' h1]
theorem yhq {P:Program} {t e:TypeId} {sz:Nat} (he:tElem P t=some e) (hsz:tSize P e=some sz) {ad:Option Addr} {len cap l h m:Nat} {lo hi mx:Option Value} {w:World}
 (hb:(Instr.sliceBounds true len cap lo hi mx).run P w=.ok (l,h,m) w) :
 (Instr.sliceAt t (.slice ad len cap) lo hi mx).run P w=.ok (.slice (if m=l then ad else ad.map (·.add (l * sz))) (h - l) (m - l)) w:=by
 simp[Instr.sliceAt,Instr.slice,run_underlying (ylr he),hb,yhn hsz]
theorem VR.lst_sub {sz:Nat} {xs:List AV} {b off cap:Nat} {l h m:Nat} (hv:VR E (.lst sz xs) (.slice (some ⟨b,off,none⟩) xs.length cap)) (h1:l≤h) (h2:h≤xs.length) (h3:h≤m) (h4:m≤cap) :
 VR E (.lst sz ((xs.drop l).take (h - l))) (.slice (if m=l then some ⟨b,off,none⟩ else (some ⟨b,off,none⟩:Option Addr).map (·.add (l * sz))) (h - l) (m - l)):=by
 cases hv with
 | lstNo _ _ _ hc =>
  have h2':h=0:=by simpa using h2
  subst h2'
  have:l=0:=by omega
  subst this
  simp only[List.drop_nil,List.take_nil,Nat.sub_self]
  split
  · exact .lstNo _ _ _ (by omega)
  · exact .lstNo _ _ _ (by omega)
 | lst _ _ _ _ _ u hS c1 c2 c3 c4 c5 =>
  have hlen:((xs.drop l).take (h - l)).length=h - l:=by simp;omega
  split
  · have hl:h - l=0:=by omega
    have hnil:(xs.drop l).take (h - l)=[]:=by rw[hl];simp
    rw[hnil,hl]
    exact .lst sz [] b off _ u hS (by simp) (by omega) (by simp) (by simp) (by simp)
  · simp only[Option.map_some,zbr]
    have:=VR.lst (E:=E) sz ((xs.drop l).take (h - l)) b (off+l * sz) (m - l) (fun k=>u (l * sz+k)) hS (by rw[hlen];omega) (by omega)
     (fun k hk=>by
      rw[hlen]at hk
      rw[Nat.add_assoc]
      refine c3 _ ?_
      have:(h - l) * sz+l * sz≤xs.length * sz:=by rw[← Nat.add_mul];exact Nat.mul_le_mul_right _ (by omega)
      omega)
     (fun i x hx=>by
      simp only[List.getElem?_take,List.getElem?_drop]at hx
      split at hx
      · exact c4 _ x hx
      · cases hx)
     (fun i x j c hx hc=>by
      simp only[List.getElem?_take,List.getElem?_drop]at hx
      split at hx
      · have:=c5 _ x j c hx hc
        rwa [Nat.add_mul,Nat.add_assoc]at this
      · cases hx)
    rwa [hlen]at this
theorem yja (hr:Rel G st E a) {t:TypeId} {p r:AV} {x:Value} {lo hi mx:Option Operand} (hx:VR E p x) (h:yi9 G.P st t lo hi mx p=some r) :
 ∃ z,(Instr.sliceAt t x (lo.map a.eval) (hi.map a.eval) (mx.map a.eval)).run G.P E.w=.ok z E.w∧VR E r z:=by
 unfold yi9 at h
 split at h
 · rename_i s
   cases hx.v_inv
   split at h
   case isFalse=>cases h
   rename_i hc
   split at h
   · rename_i l h' hl hh
     split at h
     case isFalse=>cases h
     rename_i hb
     cases h
     obtain⟨hs,hm⟩:=hc
     have hm:mx=none:=by simpa using hm
     subst hm
     obtain⟨m,hrun,_,_,_⟩:=yhp hr (isSlice:=false) (cap:=s.size) (mx:=none) hl hh hb.1 hb.2 (Nat.le_refl _) (.inl rfl)
     refine⟨_,?_,.v _⟩
     simp only[Option.map_none]at hrun
     simp[Instr.sliceAt,Instr.slice,run_underlying (yoj hs),hrun]
   · cases h
 · rename_i sz xs
   split at h
   case isFalse=>cases h
   rename_i hsz
   obtain⟨e,he,hse⟩:=Option.bind_eq_some_iff.1 hsz
   split at h
   · rename_i l h' hl hh
     split at h
     case isFalse=>cases h
     rename_i hb
     have key:(mx=none∨∃ m,mx≠none∧hi≠none∧zfg st 0 mx=some m∧h'≤m∧m≤xs.length)∧∃ f:Prop,∃ _:Decidable f,(f→mx≠none∧zfg st 0 mx=some h')∧r=if f then .full sz ((xs.drop l).take (h' - l)) else .lst sz ((xs.drop l).take (h' - l)):=by
      cases mx with
      | none=>simp only[Option.some.injEq]at h;exact⟨.inl rfl,False,inferInstance,fun h=>h.elim,by simpa using h.symm⟩
      | some om =>
       cases hi with
       | none=>simp at h
       | some oh =>
        cases hbm:zfg st 0 (some om) with
        | none=>simp[hbm]at h
        | some m =>
         simp only[hbm]at h
         split at h
         case isFalse=>cases h
         rename_i hle
         cases h
         exact⟨.inr ⟨m,by simp,by simp,rfl,hle.1,hle.2⟩,m=h',inferInstance,fun he=>⟨by simp,by rw[he]⟩,rfl⟩
     obtain⟨hm,f,_,hf,rfl⟩:=key
     have wrap:∀ (ad:Option Addr) (m:Nat),(mx≠none→zfg st 0 mx=some m)→VR E (.lst sz ((xs.drop l).take (h' - l))) (.slice ad (h' - l) (m - l))→VR E (if f then .full sz ((xs.drop l).take (h' - l)) else .lst sz ((xs.drop l).take (h' - l))) (.slice ad (h' - l) (m - l)):=by
      intro ad m hmm hv
      split
      case isFalse=>exact hv
      case isTrue hft =>
       obtain⟨h1,h2⟩:=hf hft
       have:=hmm h1
       rw[h2]at this
       cases this
       have hl':((xs.drop l).take (h' - l)).length=h' - l:=by rw[List.length_take,List.length_drop];have:=hb.1;have:=hb.2;omega
       have k:=VR.full (E:=E) sz ((xs.drop l).take (h' - l)) ad
       rw[hl']at k
       exact k hv
     cases hx with
     | lst _ _ b off cap u hS c1 c2 c3 c4 c5 =>
      obtain⟨m,hrun,hm1,hm2,hm3,_⟩:=yhp hr (isSlice:=true) (cap:=cap) hl hh hb.1 hb.2 c1 hm
      exact⟨_,yhq he hse hrun,wrap _ m hm3 <| VR.lst_sub (.lst _ _ b off cap u hS c1 c2 c3 c4 c5) hb.1 hb.2 hm1 hm2⟩
     | lstNil =>
      obtain⟨m,hrun,hm1,hm2,hm3,_⟩:=yhp hr (isSlice:=true) (cap:=0) hl hh hb.1 hb.2 (Nat.le_refl _) hm
      refine⟨_,yhq he hse hrun,wrap _ m hm3 ?_⟩
      have:l=0:=by have:=hb.1;have:=hb.2;simp at *;omega
      subst this
      have:h'=0:=by have:=hb.2;simpa using this
      subst this
      have:m=0:=by omega
      subst this
      simpa using VR.lstNil (E:=E) sz
     | lstNo _ cap ad hcap =>
      obtain⟨m,hrun,hm1,hm2,hm3,_⟩:=yhp hr (isSlice:=true) (cap:=cap) hl hh hb.1 hb.2 (Nat.zero_le _) hm
      refine⟨_,yhq he hse hrun,wrap _ m hm3 ?_⟩
      have:l=0:=by have:=hb.1;have:=hb.2;simp at *;omega
      subst this
      have:h'=0:=by have:=hb.2;simpa using this
      subst this
      simp only[List.drop_nil,List.take_nil,Nat.sub_self,Option.map_some]
      split
      · exact .lstNo _ _ _ (by omega)
      · exact .lstNo _ _ _ (by omega)
   · cases h
 · rename_i id k
   split at h
   case isFalse=>cases h
   rename_i hk
   split at h
   · rename_i e0 sz xs hh'
     split at h
     case isFalse=>cases h
     rename_i hsz
     obtain⟨e,he,hse⟩:=Option.bind_eq_some_iff.1 hsz
     split at h
     · rename_i l h' hl hh
       split at h
       case isFalse=>cases h
       rename_i hb
       have key:(mx=none∨∃ m,mx≠none∧hi≠none∧zfg st 0 mx=some m∧h'≤m∧m≤xs.length)∧∃ f:Bool,(f=true→mx≠none∧zfg st 0 mx=some h')∧(f=false→mx=none)∧r=.osl id k l h' f:=by
        cases mx with
        | none=>simp only[Option.some.injEq]at h;exact⟨.inl rfl,false,fun h=>(by cases h),fun _=>rfl,h.symm⟩
        | some om =>
         cases hi with
         | none=>simp at h
         | some oh =>
          cases hbm:zfg st 0 (some om) with
          | none=>simp[hbm]at h
          | some m =>
           simp only[hbm]at h
           split at h
           case isFalse=>cases h
           rename_i hmh
           cases h
           subst hmh
           exact⟨.inr ⟨m,by simp,by simp,rfl,Nat.le_refl _,hb.2⟩,true,fun _=>⟨by simp,rfl⟩,fun h=>(by cases h),rfl⟩
       obtain⟨hm,f,hf1,hf2,rfl⟩:=key
       cases hx with
       | ref _ _ _ h1 h2 =>
        have hx:=h2 (by rw[hr.ver];exact hk)
        subst hx
        have hbk:=hr.blocks id
        rw[hh']at hbk
        obtain⟨hszo,us,hown,hlen,hvs,hblk⟩:=hbk
        have fin:∀ (ad:Option Addr) (cap:Nat),(E.own id).val=.slice ad xs.length cap→xs.length≤cap→∃ z,(Instr.sliceAt t (E.own id).val (lo.map a.eval) (hi.map a.eval) (mx.map a.eval)).run G.P E.w=.ok z E.w∧VR E (.osl id k l h' f) z:=by
         intro ad cap hval hcap
         obtain⟨m,hrun,hm1,hm2,hm3,hm4⟩:=yhp hr (isSlice:=true) (cap:=cap) hl hh hb.1 hb.2 hcap hm
         refine⟨_,by rw[hval];exact yhq he hse hrun,.osl _ _ _ _ _ _ h1 fun _=>?_⟩
         rw[hval,hszo]
         cases f with
         | true =>
          have h3:=hm3 (hf1 rfl).1
          rw[(hf1 rfl).2]at h3
          cases h3
          rfl
         | false =>
          have h4:=hm4 (hf2 rfl)
          subst h4
          rfl
        rcases hown.2 with ⟨hv,hn⟩|⟨g,cap,cur,hv,_,_,hn,_⟩
        · exact fin none 0 (by rw[hv,hn]) (by omega)
        · exact fin _ cap hv hn
     · cases h
   · cases h
 · rename_i cs j'
   obtain⟨⟨n,m1⟩,hn,hb0⟩:=Option.bind_eq_some_iff.1 h
   clear h
   obtain⟨e,hu,hse⟩:=ylj hn
   simp only at hb0
   split at hb0
   case isFalse=>cases hb0
   rename_i hc
   obtain⟨hm1,hmx,hjn,hnl,hall⟩:=hc
   subst hm1
   have hmx:mx=none:=by simpa using hmx
   subst hmx
   split at hb0
   · rename_i l h' hl hh
     split at hb0
     case isFalse=>cases hb0
     rename_i hb
     cases hb0
     obtain⟨m,hrun,hm1,hm2,_⟩:=yhp hr (isSlice:=false) (cap:=n) (mx:=none) hl hh hb.1 hb.2 (Nat.le_refl _) (.inl rfl)
     cases hx with
     | eptr _ _ b off u h0 h1 h2 =>
      refine⟨.slice (some (if m=l then ⟨b,off+j',none⟩ else (⟨b,off+j',none⟩:Addr).add (l * 1))) (h' - l) (m - l),?_,?_⟩
      · simp only[Option.map_none]at hrun
        simp[Instr.sliceAt,run_underlying hu,Instr.sureAddr,hrun,yhn hse]
      · have hlen:((cs.drop (j'+l)).take (h' - l)).length=h' - l:=by simp;omega
        split
        · have hl:h' - l=0:=by omega
          have hnil:(cs.drop (j'+l)).take (h' - l)=[]:=by rw[hl];simp
          rw[hnil,hl]
          exact .lstNo _ _ _ (by omega)
        · rw[zbr,Nat.mul_one]
          have hv:∀ (i:Nat) x,((cs.drop (j'+l)).take (h' - l))[i]? = some x→cs[j'+l+i]? = some x∧∃ z,x=.v z:=fun i x hx=>by
           simp only[List.getElem?_take,List.getElem?_drop]at hx
           split at hx
           · refine⟨hx,?_⟩
             have:=List.all_eq_true.1 hall x (List.mem_of_getElem? hx)
             unfold isV at this
             split at this
             · exact⟨_,rfl⟩
             · cases this
           · cases hx
          have:=VR.lst (E:=E) 1 ((cs.drop (j'+l)).take (h' - l)) b (off+j'+l) (m - l) (fun k=>u (j'+l+k)) h0 (by rw[hlen];omega) (by omega)
           (fun k hk=>by
            rw[hlen]at hk
            rw[show off+j'+l+k=off+(j'+l+k) by omega]
            exact h1 _ (by omega))
           (fun i x hx=>by obtain⟨_,z,rfl⟩:=hv i x hx;rfl)
           (fun i x j c hx hc=>by
            obtain⟨h3,z,rfl⟩:=hv i x hx
            cases j with
            | zero =>
             have:c=.v z:=by simpa [AV.cells] using hc.symm
             subst this
             rw[Nat.mul_one,Nat.add_zero]
             exact h2 _ _ h3
            | succ j=>simp[AV.cells]at hc)
          rwa [hlen]at this
   · cases hb0
 · cases h
theorem zrp {P:Program} {ats:Array TypeId} {ty:TypeId} {p q r:AV} {x y:Value} (hx:VR E p x) (hy:VR E q y) (h:minAV p q=some r):∃ z,(Builtin.min_ ats ty #[x,y]).run P E.w=.ok z E.w∧VR E r z:=by
 unfold minAV at h
 split at h
 · cases hx.v_inv;cases hy.v_inv;cases h
   exact⟨_,run_min_int2 _ _ _ _ _ _ _,.v _⟩
 · cases h
theorem zq8 {P:Program} {ats:Array TypeId} {ty:TypeId} {p q r:AV} {x y:Value} (hx:VR E p x) (hy:VR E q y) (h:maxAV p q=some r):∃ z,(Builtin.max_ ats ty #[x,y]).run P E.w=.ok z E.w∧VR E r z:=by
 unfold maxAV at h
 split at h
 · cases hx.v_inv;cases hy.v_inv;cases h
   exact⟨_,run_max_int2 _ _ _ _ _ _ _,.v _⟩
 · cases h
theorem zkm (n:Int):∀ (l:List MapEntry) (i:Nat),l.all zo8=true→Instr.findNow (.int .i64) (.int .i64 n) l i=some (findI n l i)
 | [],i,_=>rfl
 | e::l,i,h=>by
  rw[List.all_cons,Bool.and_eq_true]at h
  have hk:=h.1
  unfold zo8 at hk
  split at hk
  · rename_i a ha
    have hs:Instr.sameNow (.int .i64) (.int .i64 n) e.key=some (n==a):=by rw[ha];simp[Instr.sameNow]
    have hi:keyIs n e=(n==a):=by unfold keyIs;rw[ha]
    show (match Instr.sameNow (.int .i64) (.int .i64 n) e.key with
     | some true=>some (some (i,e.val))
     | some false=>Instr.findNow (.int .i64) (.int .i64 n) l (i+1)
     | none=>none)=some (if keyIs n e=true then some (i,e.val) else findI n l (i+1))
    rw[hs,hi]
    cases n==a with
    | true=>rfl
    | false=>exact zkm n l (i+1) h.2
  · cases hk
theorem yhs {P:Program} {t:TypeId} {z:Value} (h:tZero P t=some z) (w:World):(zeroValue t).run P w=.ok z w:=by
 unfold tZero at h
 cases hi:P.info? t with
 | none=>simp[hi]at h
 | some i =>
  have:i.zero=some z:=by simpa [hi] using h
  simp[zeroValue,typeInfo,hi,this]
theorem yg6 {P:Program} {kt:TypeId} (hk:P.underlying kt=some (.int .i64)) (b:Bool) (n:Int) (w:World):(Instr.checkKey b 10000 kt (.int .i64 n)).run P w=.ok () w:=by
 exact MapKept.run_checkKey hk (by trivial) b 9999
theorem yhc {P:Program} {kt:TypeId} (hk:P.underlying kt=some (.int .i64)) {es:Array MapEntry} (h:intM es=true) (n:Int) (w:World):(Instr.findKey kt (.int .i64 n) es.toList).run P w=.ok (findI n es.toList 0) w:=by
 simp[Instr.findKey,run_underlying hk,zkm n es.toList 0 h]
theorem zpd {E:Env} {q:AV} {y:Value} {k:KeyQ} (hy:VR E q y) (h:keyQ q=some k):y=k.val:=by
 unfold keyQ at h
 split at h
 · cases hy.v_inv;cases h;rfl
 · cases h
   cases hy with
   | agg _ us hl hc =>
    have h0:=(hc 0 _ rfl).v_inv
    have h1:=(hc 1 _ rfl).v_inv
    have hsz:us.size=2:=by simpa using hl.symm
    obtain⟨l⟩:=us
    match l,hsz with
    | [x,y],_=>simp at h0 h1;subst h0;subst h1;rfl
 · cases h
theorem ypa {P:Program} {t:TypeId} (h:tFlat P t=some [1,1]):∃ f g:Field,P.underlying t=some (.struct #[f,g])∧f.offset=0∧g.offset=1∧P.underlying f.type=some .string∧P.underlying g.type=some .string∧f.name ≠ "_" ∧ g.name ≠ "_" ∧ P.stoodInHeld t=false:=by
 unfold tFlat at h
 split at h
 case h_2=>cases h
 rename_i fs hu
 split at h
 case isFalse=>cases h
 rename_i hc
 obtain⟨h1,h2,h3,h4⟩:=hc
 obtain⟨l⟩:=fs
 have kind:∀ {u:TypeId},fKind P u=some 1→P.underlying u=some .string:=fun {u} hk=>by
  unfold fKind at hk;split at hk<;>first|assumption|cases hk
 match l,h,h3,h4 with
 | [],h,_,_=>simp at h
 | [f],h,_,_=>simp[List.mapM_cons,Option.bind_eq_some_iff]at h
 | [f,g],h,h3,h4 =>
  simp only[List.mapM_cons,List.mapM_nil,Option.bind_eq_bind,Option.bind_eq_some_iff,Option.pure_def,Option.some.injEq]at h
  obtain⟨a,ha,b,⟨c,hc,d,hd,rfl⟩,h⟩:=h
  cases hd
  cases h
  simp[List.range'_succ]at h3 h4
  exact⟨f,g,hu,h3.1,h3.2,kind ha,kind hc,h4.1,h4.2,h1⟩
 | f::g::x::l,h,_,_ =>
  simp only[List.mapM_cons,Option.bind_eq_bind,Option.bind_eq_some_iff,Option.pure_def,Option.some.injEq]at h
  obtain⟨a,ha,b,⟨c,hc,d,⟨y,hy,z,hz,rfl⟩,rfl⟩,h⟩:=h
  simp at h
theorem yg5 {P:Program} {kt:TypeId} {k:KeyQ} (hk:k.okT P kt=true) (b:Bool) (w:World):(Instr.checkKey b 10000 kt k.val).run P w=.ok () w:=by
 cases k with
 | txt s=>exact MapKept.run_checkKey (yoj hk) (by trivial) b 9999
 | two a c =>
  simp only[KeyQ.okT,beq_iff_eq]at hk
  obtain⟨f,g,hu,hf,hg,kf,kg,nf,ng,_⟩:=ypa hk
  have h1:fKind P f.type=some 1:=by unfold fKind;rw[kf]
  have h2:fKind P g.type=some 1:=by unfold fKind;rw[kg]
  have p1:=yhj h1 #[.string a,.string c] 0 (by simp) w
  have p2:=yhj h2 #[.string a,.string c] 1 (by simp) w
  have c1:=MapKept.run_checkKey (P:=P) (w:=w) (k:=.string a) kf (by trivial) b 9998
  have c2:=MapKept.run_checkKey (P:=P) (w:=w) (k:=.string c) kg (by trivial) b 9998
  rw[show (10000:Nat)=9998+1+1 from rfl]
  generalize (9998:Nat)=N at c1 c2
  rw[Instr.checkKey]
  simp[KeyQ.val,run_underlying hu,nf,ng,hf,hg,p1,p2,c1,c2]
theorem is_txt (s x:ByteArray):(s==x)=(s.toList==x.toList):=beq_toListBytes ..
theorem zkl (s:ByteArray):∀ (l:List MapEntry) (i:Nat),(l.all fun e=>(KeyQ.txt s).like e.key)=true→Instr.findNow .string (.string s) l i=some (findQ (.txt s) l i)
 | [],i,_=>rfl
 | e::l,i,h=>by
  rw[List.all_cons,Bool.and_eq_true]at h
  have hk:=h.1
  unfold KeyQ.like at hk
  split at hk
  · rename_i s' x hs hx
    have hs':Instr.sameNow .string (.string s) e.key=some (s==x):=by rw[hx];rfl
    have hi:(KeyQ.txt s).is e.key=(s==x):=by rw[hx,is_txt];rfl
    show (match Instr.sameNow .string (.string s) e.key with
     | some true=>some (some (i,e.val))
     | some false=>Instr.findNow .string (.string s) l (i+1)
     | none=>none)=some (if (KeyQ.txt s).is e.key=true then some (i,e.val) else findQ (.txt s) l (i+1))
    rw[hs',hi]
    cases s==x with
    | true=>rfl
    | false=>exact zkl s l (i+1) h.2
  · rename_i hs _;cases hs
  · cases hk
theorem zkg {P:Program} {kt:TypeId} (hk:tFlat P kt=some [1,1]) (a c:ByteArray) (w:World):∀ (l:List MapEntry) (i:Nat),(l.all fun e=>(KeyQ.two a c).like e.key)=true→(Instr.findAsking kt (KeyQ.two a c).val l i).run P w=.ok (findQ (.two a c) l i) w
 | [],i,_=>by simp[Instr.findAsking,findQ]
 | e::l,i,h=>by
  rw[List.all_cons,Bool.and_eq_true]at h
  have hlk:=h.1
  have ih:=zkg hk a c w l (i+1) h.2
  obtain⟨f,g,hu,hf,hg,kf,kg,nf,ng,hst⟩:=ypa hk
  have h1:fKind P f.type=some 1:=by unfold fKind;rw[kf]
  have h2:fKind P g.type=some 1:=by unfold fKind;rw[kg]
  have hkey:∃ x y,e.key=.agg #[.string x,.string y]:=by
   unfold KeyQ.like at hlk
   split at hlk
   · rename_i h' _;cases h'
   · rename_i us hq hus
     split at hlk
     · rename_i x y hxy
       exact⟨x,y,by rw[hus];congr 1;rw[← Array.toList_inj];exact hxy⟩
     · cases hlk
   · cases hlk
  obtain⟨x,y,hkey⟩:=hkey
  have heq:(Op.equal kt (KeyQ.two a c).val e.key).run P w=.ok ((a.toList==x.toList)&&(c.toList==y.toList)) w:=by
   rw[hkey]
   show (Op.equalIn 10000 kt (.agg #[.string a,.string c]) (.agg #[.string x,.string y])).run P w=_
   rw[show (10000:Nat)=9999+1 from rfl,run_equalIn_struct w 9999 kt _ _ (by simp[Program.fieldsOf,hu]) hst]
   have hfo:P.fieldsOf kt=#[f,g]:=by simp[Program.fieldsOf,hu]
   rw[hfo]
   exact ziw (E:=⟨fun _=>0,fun _=>⟨.bool true,0,0⟩,fun _=>False,w⟩) 9998 #[.string a,.string c] #[.string x,.string y] [f,g] 0 [1,1] [.v (.string a),.v (.string c)] [.v (.string x),.v (.string y)] _ (by simp[hf,hg,List.range'_succ]) (by simp[nf,ng]) (by simp[h1,h2])
    (fun j p hj=>by match j,hj with
     | 0,hj=>cases hj;exact⟨by simp,.v _⟩
     | 1,hj=>cases hj;exact⟨by simp,.v _⟩) (fun j p hj=>by match j,hj with
     | 0,hj=>cases hj;exact⟨by simp,.v _⟩
     | 1,hj=>cases hj;exact⟨by simp,.v _⟩) (by simp[zi1])
  have hi:(KeyQ.two a c).is e.key=((a.toList==x.toList)&&(c.toList==y.toList)):=by rw[hkey];rfl
  unfold findQ
  rw[hi]
  simp only[Instr.findAsking,Sem.run_bind,heq,Result.andThen_ok]
  cases hb:(a.toList==x.toList)&&(c.toList==y.toList) with
  | true=>simp
  | false=>simpa using ih
theorem yhb {P:Program} {kt:TypeId} {k:KeyQ} (hk:k.okT P kt=true) {es:Array MapEntry} (h:qM es k=true) (w:World):(Instr.findKey kt k.val es.toList).run P w=.ok (findQ k es.toList 0) w:=by
 cases k with
 | txt s=>simp[Instr.findKey,run_underlying (yoj hk),KeyQ.val,zkl s es.toList 0 h]
 | two a c =>
  simp only[KeyQ.okT,beq_iff_eq]at hk
  obtain⟨f,g,hu,_⟩:=ypa hk
  rw[run_findKey_eq w (by rw[hu])]
  exact zkg hk a c w es.toList 0 h
theorem zqs {P:Program} {w:World} {t:TypeId} {ok:Bool} {es:Array MapEntry} {clk r:Nat} {q a:AV} {y:Value} (hb:w.heap[r]? = some (.map es clk)) (hy:VR E q y) (h:zqr P t ok es q=some a) :
 ∃ z,(Instr.lookup t (.map (some r)) y ok).run P w=.ok z w∧VR E a z:=by
 unfold zqr at h
 split at h
 · rename_i n
   cases hy.v_inv
   obtain⟨⟨kt,et⟩,hm,h⟩:=Option.bind_eq_some_iff.1 h
   simp only at h
   split at h
   case isFalse=>cases h
   rename_i hc
   obtain⟨z,hz,rfl⟩:=Option.map_eq_some_iff.1 h
   have hku:=ynp hc.1
   cases hf:findI n es.toList 0 with
   | none =>
    have hg:mget es n=none:=by unfold mget;rw[hf];rfl
    refine⟨if ok=true then .tuple #[z,.bool false] else z,?_,?_⟩
    · simp[Instr.lookup,run_underlying (ynq hm),MapKept.run_getObj_map hb,yg6 hku,yhc hku hc.2,hf,yhs hz]
    · rw[hg]
      cases ok with
      | true=>exact .tup _ #[z,.bool false] rfl (fun i c hc=>by
       match i,hc with
       | 0,hc=>cases hc;exact .v _
       | 1,hc=>cases hc;exact .v _)
      | false=>exact .v _
   | some x =>
    obtain⟨i,v⟩:=x
    have hg:mget es n=some v:=by unfold mget;rw[hf];rfl
    refine⟨if ok=true then .tuple #[v,.bool true] else v,?_,?_⟩
    · simp[Instr.lookup,run_underlying (ynq hm),MapKept.run_getObj_map hb,yg6 hku,yhc hku hc.2,hf]
    · rw[hg]
      cases ok with
      | true=>exact .tup _ #[v,.bool true] rfl (fun i c hc=>by
       match i,hc with
       | 0,hc=>cases hc;exact .v _
       | 1,hc=>cases hc;exact .v _)
      | false=>exact .v _
 · obtain⟨kq,hkq,h⟩:=Option.bind_eq_some_iff.1 h
   have hyv:=zpd hy hkq
   subst hyv
   obtain⟨⟨kt,et⟩,hm,h⟩:=Option.bind_eq_some_iff.1 h
   simp only at h
   split at h
   case isFalse=>cases h
   rename_i hc
   obtain⟨z,hz,rfl⟩:=Option.map_eq_some_iff.1 h
   cases hf:findQ kq es.toList 0 with
   | none =>
    have hg:qget es kq=none:=by unfold qget;rw[hf];rfl
    refine⟨if ok=true then .tuple #[z,.bool false] else z,?_,?_⟩
    · simp[Instr.lookup,run_underlying (ynq hm),MapKept.run_getObj_map hb,yg5 hc.1,yhb hc.1 hc.2,hf,yhs hz]
    · rw[hg]
      cases ok with
      | true=>exact .tup _ #[z,.bool false] rfl (fun i c hc=>by
       match i,hc with
       | 0,hc=>cases hc;exact .v _
       | 1,hc=>cases hc;exact .v _)
      | false=>exact .v _
   | some x =>
    obtain⟨i,v⟩:=x
    have hg:qget es kq=some v:=by unfold qget;rw[hf];rfl
    refine⟨if ok=true then .tuple #[v,.bool true] else v,?_,?_⟩
    · simp[Instr.lookup,run_underlying (ynq hm),MapKept.run_getObj_map hb,yg5 hc.1,yhb hc.1 hc.2,hf]
    · rw[hg]
      cases ok with
      | true=>exact .tup _ #[v,.bool true] rfl (fun i c hc=>by
       match i,hc with
       | 0,hc=>cases hc;exact .v _
       | 1,hc=>cases hc;exact .v _)
      | false=>exact .v _
theorem yrt {P:Program} {t:TypeId} {z:AV} (h:yrs P t=some z):∃ x,tZero P t=some x∧∀ E,VR E z x:=by
 unfold yrs at h
 split at h
 · rename_i x e hx he
   split at h
   · obtain⟨n,_,rfl⟩:=Option.map_eq_some_iff.1 h
     exact⟨_,hx,fun E=>.lstNil _⟩
   · cases h;exact⟨_,hx,fun E=>.v _⟩
 · rename_i x hx he
   cases h;exact⟨_,hx,fun E=>.v _⟩
 · cases h
theorem zqt {P:Program} {w:World} {t:TypeId} {ok:Bool} {m:Int→Option AV} {es:Array MapEntry} {clk r:Nat} {q a:AV} {y:Value} (hb:w.heap[r]? = some (.map es clk)) (ham:AM E m es) (hy:VR E q y) (h:lookM P t ok m q=some a) :
 ∃ z,(Instr.lookup t (.map (some r)) y ok).run P w=.ok z w∧VR E a z:=by
 unfold lookM at h
 split at h
 case h_2=>cases h
 rename_i n
 cases hy.v_inv
 obtain⟨⟨kt,et⟩,hm,h⟩:=Option.bind_eq_some_iff.1 h
 simp only at h
 split at h
 case isFalse=>cases h
 rename_i hc
 obtain⟨z,hz,rfl⟩:=Option.map_eq_some_iff.1 h
 obtain⟨x,hx,hzx⟩:=yrt hz
 have hku:=ynp hc
 have hs:=ham.2.1 n
 cases hf:findI n es.toList 0 with
 | none =>
  have hg:mget es n=none:=by unfold mget;rw[hf];rfl
  rw[hg]at hs
  have hmn:m n=none:=by cases h:m n with|none=>rfl|some _=>rw[h]at hs;cases hs
  refine⟨if ok=true then .tuple #[x,.bool false] else x,?_,?_⟩
  · simp[Instr.lookup,run_underlying (ynq hm),MapKept.run_getObj_map hb,yg6 hku,yhc hku ham.1,hf,yhs hx]
  · have e1:getM m z n=z:=by unfold getM;rw[hmn];rfl
    have e2:hasM m n=false:=by unfold hasM;rw[hmn];rfl
    rw[e1,e2]
    cases ok with
    | true=>exact .tup _ #[x,.bool false] rfl (fun i c hc=>by
     match i,hc with
     | 0,hc=>cases hc;exact hzx E
     | 1,hc=>cases hc;exact .v _)
    | false=>exact hzx E
 | some p =>
  obtain⟨i,v⟩:=p
  have hg:mget es n=some v:=by unfold mget;rw[hf];rfl
  rw[hg]at hs
  obtain⟨b,hmn⟩:=Option.isSome_iff_exists.1 hs
  have hv:=ham.2.2 n b v hmn hg
  refine⟨if ok=true then .tuple #[v,.bool true] else v,?_,?_⟩
  · simp[Instr.lookup,run_underlying (ynq hm),MapKept.run_getObj_map hb,yg6 hku,yhc hku ham.1,hf]
  · have e1:getM m z n=b:=by unfold getM;rw[hmn];rfl
    have e2:hasM m n=true:=by unfold hasM;rw[hmn];rfl
    rw[e1,e2]
    cases ok with
    | true=>exact .tup _ #[v,.bool true] rfl (fun i c hc=>by
     match i,hc with
     | 0,hc=>cases hc;exact hv
     | 1,hc=>cases hc;exact .v _)
    | false=>exact hv
theorem zqv (hr:Rel G st E a) {t:TypeId} {ok:Bool} {p q r:AV} {x y:Value} (hx:VR E p x) (hy:VR E q y) (h:zqu G.P st t ok p q=some r):∃ z,(Instr.lookup t x y ok).run G.P E.w=.ok z E.w∧VR E r z:=by
 unfold zqu at h
 split at h
 · cases hx with
   | mapv _ _ b hS hb=>exact zqs hb hy h
 · cases hx with
   | amapv _ es clk b h1 h2 h3 h4 h5=>exact zqt h2 ⟨h3,h4,h5⟩ hy h
 · rename_i id k
   split at h
   case isFalse=>cases h
   rename_i hk
   split at h
   · rename_i es clk hh
     cases hx with
     | ref _ _ _ h1 h2 =>
      have hx:=h2 (by rw[hr.ver];exact hk)
      subst hx
      have hb:=hr.blocks id
      rw[hh]at hb
      obtain⟨g1,g2,_⟩:=hb
      rw[g2]
      exact zqs g1 hy h
   · rename_i m hh
     cases hx with
     | ref _ _ _ h1 h2 =>
      have hx:=h2 (by rw[hr.ver];exact hk)
      subst hx
      have hb:=hr.blocks id
      rw[hh]at hb
      obtain⟨es,clk,g1,g2,_,_,g3⟩:=hb
      rw[g2]
      exact zqt g1 g3.1 hy h
   · cases h
 · cases h
theorem zi9 (hr:Rel G st E a) {o:Oper} {r:AV} (h:evalV G.P st o.op=some r) :
 ∃ z,(execOp a.eval o).run G.P E.w=.ok (.value z) E.w∧VR E r z:=by
 unfold evalV at h
 split at h
 · rename_i x ho
   have hx:=hr.ev x
   unfold sureP at h
   split at h
   · rename_i cs j hev
     cases h
     rw[hev]at hx
     generalize hax:a.eval x=z at hx
     cases hx with
     | eptr _ _ b off u h1 h2 h3=>exact⟨_,by simp[execOp,ho,hax],.eptr _ _ b off u h1 h2 h3⟩
   · rename_i id k i j hev
     split at h
     case isFalse=>cases h
     rename_i hk
     cases h
     rw[hev]at hx
     generalize hax:a.eval x=z at hx
     cases hx with
     | rptr _ _ _ _ _ h1 h2 =>
      have hz:=h2 (by rw[hr.ver];exact hk)
      subst hz
      exact⟨_,by simp[execOp,ho,hax],.rptr _ _ _ _ _ h1 h2⟩
   · cases h
 · rename_i t x ho
   split at h
   case isFalse=>cases h
   rename_i hc
   cases h
   exact⟨_,by simp[execOp,ho,yhe hc],.iface _ _ _ (hr.ev x)⟩
 · cases h;rename_i x ho;exact⟨_,by simp[execOp,ho],hr.ev x⟩
 · cases h;rename_i x ho;exact⟨_,by simp[execOp,ho],hr.ev x⟩
 · rename_i c x y ho
   have hc:=hr.ev c
   split at h
   · rename_i t ht
     rw[ht]at hc
     cases h
     have hc:=hc.v_inv
     refine⟨if t then a.eval x else a.eval y,?_,?_⟩
     · simp[execOp,ho,hc,asBool]
     · cases t<;>simp[hr.ev]
   · cases h
 · rename_i t x ho
   obtain⟨z,h1,h2⟩:=zp8 hr (hr.ev x) h
   exact⟨z,by simp[execOp,ho,h1],h2⟩
 · rename_i op t x y yt ho
   obtain⟨z,h1,h2⟩:=zev (ox:=x) (oy:=y) (hr.ev x) (hr.ev y) h
   exact⟨z,by simp only[execOp,ho];rw[Sem.run_bind,h1];rfl,h2⟩
 · rename_i op t x ho
   obtain⟨z,h1,h2⟩:=ypd (P:=G.P) (hr.ev x) h
   exact⟨z,by simp[execOp,ho,h1],h2⟩
 · rename_i s d x ho
   split at h
   case isFalse=>cases h
   rename_i hs
   obtain⟨z,h1,h2⟩:=zhh hs (hr.ev x) h
   exact⟨z,by simp[execOp,ho,h1],h2⟩
 · rename_i f first captured ho
   cases h
   refine⟨.func f (first.map a.eval) (captured.map a.eval),by simp[execOp,ho,Instr.makeFunc],.fn _ _ _ _ _ (by simp) (by simp) ?_ ?_⟩
   · intro i c hi
     simp only[List.getElem?_map,Option.map_eq_some_iff]at hi
     obtain⟨o',ho',rfl⟩:=hi
     have:(first.map a.eval).getD i undef=a.eval o':=by
      rw[Array.getElem?_toList]at ho'
      simp[Array.getD_eq_getD_getElem?,ho']
     rw[this];exact hr.ev o'
   · intro i c hi
     simp only[List.getElem?_map,Option.map_eq_some_iff]at hi
     obtain⟨o',ho',rfl⟩:=hi
     have:(captured.map a.eval).getD i undef=a.eval o':=by
      rw[Array.getElem?_toList]at ho'
      simp[Array.getD_eq_getD_getElem?,ho']
     rw[this];exact hr.ev o'
 · rename_i t x f ho
   obtain⟨z,h1,h2⟩:=zjv hr (hr.ev x) h
   exact⟨z,by simp[execOp,ho,h1],h2⟩
 · rename_i t x f ho
   obtain⟨z,h1,h2⟩:=zjt (hr.ev x) h
   exact⟨z,by simp[execOp,ho,h1],h2⟩
 · rename_i t x i ho
   obtain⟨z,h1,h2⟩:=zoe hr (hr.ev x) (hr.ev i) h
   exact⟨z,by simp[execOp,ho,h1],h2⟩
 · rename_i t x i ho
   obtain⟨z,h1,h2⟩:=zoc (hr.ev x) (hr.ev i) h
   exact⟨z,by simp[execOp,ho,h1],h2⟩
 · rename_i x i ho
   have hx:=hr.ev x
   split at h
   · rename_i cs hcs
     rw[hcs]at hx
     generalize hy:a.eval x=y at hx
     cases hx with
     | tup _ us hl hc =>
      have hlt:i < us.size:=by rw[← hl];exact (List.getElem?_eq_some_iff.1 h).1
      refine⟨us.getD i undef,?_,hc i r h⟩
      simp[execOp,ho,Instr.extract,hy,hlt]
   · cases h
 · rename_i t x lo hi mx ho
   obtain⟨z,h1,h2⟩:=yja hr (hr.ev x) h
   exact⟨z,by simp[execOp,ho,h1],h2⟩
 · rename_i t m k ok ho
   obtain⟨z,h1,h2⟩:=zqv hr (hr.ev m) (hr.ev k) h
   exact⟨z,by simp[execOp,ho,h1],h2⟩
 · rename_i c ho
   split at h
   · rename_i hcal
     split at h
     · rename_i x t hargs htypes
       have hargs':c.args=#[x]:=by rw[← Array.toList_inj];simpa using hargs
       have htypes':c.argTypes=#[t]:=by rw[← Array.toList_inj];simpa using htypes
       obtain⟨z,h1,h2⟩:=zqg (ty:=o.type) hr (hr.ev x) h
       exact⟨z,by simp[execOp,ho,resolve,hcal,hargs',htypes',invoke,builtin,h1],h2⟩
     · cases h
   · rename_i hcal
     split at h
     · rename_i x y hargs
       have hargs':c.args=#[x,y]:=by rw[← Array.toList_inj];simpa using hargs
       obtain⟨z,h1,h2⟩:=zrp (P:=G.P) (ats:=c.argTypes) (ty:=o.type) (hr.ev x) (hr.ev y) h
       exact⟨z,by simp[execOp,ho,resolve,hcal,hargs',invoke,builtin,h1],h2⟩
     · cases h
   · rename_i hcal
     split at h
     · rename_i x y hargs
       have hargs':c.args=#[x,y]:=by rw[← Array.toList_inj];simpa using hargs
       obtain⟨z,h1,h2⟩:=zq8 (P:=G.P) (ats:=c.argTypes) (ty:=o.type) (hr.ev x) (hr.ev y) h
       exact⟨z,by simp[execOp,ho,resolve,hcal,hargs',invoke,builtin,h1],h2⟩
     · cases h
   · cases h
 · cases h
end
end Go.Abs
