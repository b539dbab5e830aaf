/- Several texts of the proof in one: Fq. No condition. -/
import Derived.Test.YthjmjdleecmaeaaGreatL10
import Derived.Test.YthjmjdleecmaeaaGreatL11
set_option linter.unusedSimpArgs false
set_option linter.unusedVariables false
set_option maxHeartbeats 4000000
set_option maxRecDepth 8000
namespace Go.Abs
open Go Go.RowKit
theorem nrfl {α:Sort _} (a:α):a=a:=Eq.trans rfl rfl
section
variable {P:Program} {st:St} {id:Nat}
theorem q_ev_tmp (t:Tmp):st.ev (.tmp t)=st.σ t:=nrfl _
theorem yau (x:Value):st.ev (.const x)=.v x:=nrfl _
theorem yav (f:FuncId):st.ev (.func f)=.fn (.func f) [] []:=nrfl _
theorem q_put_σ (d:Tmp) (r:AV) (j:Nat):(st.put (some d) r).σ j=if j=d then r else st.σ j:=nrfl _
theorem yeb (d:Option Tmp) (r:AV):(st.put d r).ver=st.ver:=by cases d<;>exact nrfl _
theorem q_put_h (d:Option Tmp) (r:AV):(st.put d r).h=st.h:=by cases d<;>exact nrfl _
theorem yea (r:AV):st.put none r=st:=nrfl _
theorem q_setArr_σ (i e sz:Nat) (xs:List AV):(st.setArr i e sz xs).σ=st.σ:=nrfl _
theorem yen (i e sz:Nat) (xs:List AV) (j:Nat):(st.setArr i e sz xs).ver j=if j=i then st.ver i+1 else st.ver j:=nrfl _
theorem yem (i e sz:Nat) (xs:List AV) (j:Nat):(st.setArr i e sz xs).h j=if j=i then .arr e sz xs else st.h j:=nrfl _
theorem q_setBox_σ (i:Nat) (xs:List AV):(st.setBox i xs).σ=st.σ:=nrfl _
theorem yep (i:Nat) (xs:List AV) (j:Nat):(st.setBox i xs).ver j=if j=i then st.ver i+1 else st.ver j:=nrfl _
theorem yeo (i:Nat) (xs:List AV) (j:Nat):(st.setBox i xs).h j=if j=i then .box xs else st.h j:=nrfl _
theorem q_setH_σ (i:Nat) (b:Blk):(st.setH i b).σ=st.σ:=nrfl _
theorem yeq (i:Nat) (b:Blk):(st.setH i b).ver=st.ver:=nrfl _
theorem q_setH_h (i:Nat) (b:Blk) (j:Nat):(st.setH i b).h j=if j=i then b else st.h j:=nrfl _
theorem q_start_σ (args:List AV) (j:Nat):(ykc args).σ j=argAt args j:=nrfl _
theorem yez (args:List AV) (j:Nat):(ykc args).ver j=0:=nrfl _
theorem q_freeze_σ (i j:Nat):(st.freeze i).σ j=fz st i (st.σ j):=nrfl _
theorem ya2 (i:Nat):(st.freeze i).ver=st.ver:=nrfl _
theorem ya1 (i j:Nat):(st.freeze i).h j=if j=i then .none else fzB st i (st.h j):=nrfl _
theorem ya4:st.freezes []=st:=nrfl _
theorem ya3 (i:Nat) (l:List Nat):st.freezes (i::l)=(st.freeze i).freezes l:=nrfl _
theorem q_ownNil_σ (i e sz d j:Nat):(st.ownNil i e sz d).σ j=if j=d then .ref i (st.ver i+1) else st.σ j:=nrfl _
theorem yd1 (i e sz d j:Nat):(st.ownNil i e sz d).ver j=if j=i then st.ver i+1 else st.ver j:=nrfl _
theorem yd0 (i e sz d j:Nat):(st.ownNil i e sz d).h j=if j=i then .arr e sz [] else st.h j:=nrfl _
theorem ybo (b want:Bool):zm8 (.v (.bool b)) want=some (b==want):=nrfl _
theorem ybp (want:Bool):zm8 (.v undef) want=some false:=nrfl _
theorem ybn (ops:Array Oper) (j:Nat):zm7 ops j=(ops[j]?).bind (·.dst):=nrfl _
def onArr {α:Type} (b:Blk) (no:α) (f:Nat→Nat→List AV→α):α :=
 match b with
 | .arr e sz xs=>f e sz xs
 | _=>no
theorem q_onArr {α:Type} (no:α) (f:Nat→Nat→List AV→α) (e sz:Nat) (xs:List AV):onArr (.arr e sz xs) no f=f e sz xs:=nrfl _
def onBlk {α:Type} (b:Blk) (no:α) (f:Nat→Nat→List AV→α) (g:List AV→α):α :=
 match b with
 | .arr e sz xs=>f e sz xs
 | .box cs=>g cs
 | _=>no
def onRef {α:Type} (b:Blk) (no:α) (f:Nat→Nat→List AV→α) (g:Array MapEntry→Nat→α) (k:AMap→α):α :=
 match b with
 | .arr e sz xs=>f e sz xs
 | .map es clk=>g es clk
 | .amap m=>k m
 | _=>no
theorem yde {α:Type} (no:α) (f:Nat→Nat→List AV→α) (g:Array MapEntry→Nat→α) (k:AMap→α) (e sz:Nat) (xs:List AV):onRef (.arr e sz xs) no f g k=f e sz xs:=nrfl _
theorem ydf {α:Type} (no:α) (f:Nat→Nat→List AV→α) (g:Array MapEntry→Nat→α) (k:AMap→α) (es:Array MapEntry) (clk:Nat):onRef (.map es clk) no f g k=g es clk:=nrfl _
theorem ydd {α:Type} (no:α) (f:Nat→Nat→List AV→α) (g:Array MapEntry→Nat→α) (k:AMap→α) (m:AMap):onRef (.amap m) no f g k=k m:=nrfl _
theorem yc4 {α:Type} (no:α) (f:Nat→Nat→List AV→α) (g:List AV→α) (e sz:Nat) (xs:List AV):onBlk (.arr e sz xs) no f g=f e sz xs:=nrfl _
theorem yc5 {α:Type} (no:α) (f:Nat→Nat→List AV→α) (g:List AV→α) (cs:List AV):onBlk (.box cs) no f g=g cs:=nrfl _
theorem yam (x:Value):(AV.v x).cells=[.v x]:=nrfl _
theorem yag (cs:List AV):(AV.agg cs).cells=cs:=nrfl _
theorem yaj (sz:Nat) (xs:List AV):(AV.lst sz xs).cells=[.lst sz xs]:=nrfl _
theorem yal (i k:Nat):(AV.ref i k).cells=[.ref i k]:=nrfl _
theorem yah (cs:List AV) (j:Nat):(AV.eptr cs j).cells=[.eptr cs j]:=nrfl _
theorem ycv (cs:List AV) (j:Nat):zsl st (.eptr cs j)=none:=nrfl _
theorem yck (t:TypeId) (ok:Bool) (m:Int→Option AV) (q:AV):zqu P st t ok (.amapv m) q=lookM P t ok m q:=nrfl _
theorem q_lookM (t:TypeId) (ok:Bool) (m:Int→Option AV) (n:Int):lookM P t ok m (.v (.int .i64 n))=(tMap P t).bind fun x=>if tInt P x.1=some .i64 then
 (yrs P x.2).map fun z=>if ok=true then .tup [getM m z n,.v (.bool (hasM m n))] else getM m z n else none:=nrfl _
theorem ybj (m:Int→Option AV):fz st id (.amapv m)=.amapv m:=nrfl _
theorem ybf (m:AMap):fzB st id (.amap m)=.amap m:=nrfl _
theorem zz7 (op:BinOp) (t:TypeId) (cs:List AV) (j:Nat):binAV P op t (.eptr cs j) (.v (.pointer none))=if tPtr P t=true then eqOp op false else none:=nrfl _
theorem zz9 (op:BinOp) (t:TypeId):binAV P op t (.v (.pointer none)) (.v (.pointer none))=if tPtr P t=true then eqOp op true else none:=nrfl _
theorem ybx (k:IntKind) (x y:Int):zon .and k x y=some (.v (.int k (andI k x y))):=nrfl _
theorem q_int_or (k:IntKind) (x y:Int):zon .or k x y=some (.v (.int k (orI k x y))):=nrfl _
theorem ycc (k:IntKind) (x y:Int):zon .xor k x y=some (.v (.int k (xorI k x y))):=nrfl _
theorem yby (k:IntKind) (x y:Int):zon .andNot k x y=some (.v (.int k (zcu k x y))):=nrfl _
theorem yb8 (k:IntKind) (x y:Int) (h:0≤y):zon .shl k x y=some (.v (.int k (k.wrap (x * 2 ^ (min y.toNat k.bits))))):=by
 show yi2 .shl k x y=_
 unfold yi2;rw[if_neg (by omega)]
theorem yca (k:IntKind) (x y:Int) (h1:y≠1) (h:0≤y):zon .shr k x y=some (.v (.int k (x.fdiv (2 ^ (min y.toNat k.bits))))):=by
 show (if y=1 then _ else yi2 .shr k x y)=_
 rw[if_neg h1];unfold yi2;rw[if_neg (by omega)]
theorem q_compl (k:IntKind) (n:Int):unAV .xor (.v (.int k n))=some (.v (.int k (xorI k (if k.signed then -1 else k.max) n))):=nrfl _
theorem yco (t:TypeId) (x:Operand):evalV P st (.makeInterface t x)=if tConc P t=true then some (.iface t (st.ev x)) else none:=nrfl _
theorem q_onKeyI (n:Int) (f:Int→Prop):ztz (.v (.int .i64 n)) f=f n:=nrfl _
theorem yc8 (m:AMap) (f:AMap→Prop) (no:Prop):zt2 (.amap m) f no=f m:=nrfl _
theorem yc9 (es:Array MapEntry) (clk:Nat) (f:AMap→Prop) (no:Prop):zt2 (.map es clk) f no=no:=nrfl _
theorem q_onMapA (i k:Nat) (f:Nat→AMap→Prop) (no:Prop) (hk:k=st.ver i):zt1 st (.ref i k) f no=zt2 (st.h i) (f i) no:=by
 subst hk;simp[zt1]
theorem ydo (s:ByteArray) (f:ByteArray→Prop) (no:Prop):onStr (.v (.string s)) f no=f s:=nrfl _
theorem ydm (sz:Nat) (xs:List AV) (f:ByteArray→Prop) (no:Prop):onStr (.lst sz xs) f no=no:=nrfl _
theorem ydn (i k:Nat) (f:ByteArray→Prop) (no:Prop):onStr (.ref i k) f no=no:=nrfl _
theorem q_onArrP (i k:Nat) (f:Nat→Nat→Nat→List AV→Prop) (hk:k=st.ver i):ztm st (.ref i k) f=onArr (st.h i) False (f i):=by
 subst hk;simp only[ztm,true_and];rfl
theorem yc6 (t:TypeId) (x:AV) (f:TypeId→AV→Prop):ztu (.iface t x) f=f t x:=nrfl _
theorem yfi (k:IntKind) (n:Int):yrv (.int k n)=.v (.int k n):=nrfl _
theorem yfh (us:Array Value):yrv (.agg us)=.agg (yps (.agg us)):=nrfl _
theorem yfg (k:IntKind) (n:Int):zOK (.int k n)=true:=nrfl _
theorem yff (us:Array Value):zOK (.agg us)=true:=nrfl _
theorem yai (f:Fn) (a b:List AV):(AV.fn f a b).cells=[.fn f a b]:=nrfl _
theorem q_nil_v (x:Value):zsl st (.v x)=none:=nrfl _
theorem ycw (sz:Nat) (xs:List AV):zsl st (.lst sz xs)=some xs:=nrfl _
theorem q_ok_v (x:Value):zte st (.v x)=x.oneCell':=nrfl _
theorem q_ok_lst (sz:Nat) (xs:List AV):zte st (.lst sz xs)=true:=nrfl _
theorem yc2 (cs:List AV) (j:Nat):zte st (.eptr cs j)=true:=nrfl _
theorem q_ok_fn (f:Fn) (a b:List AV):zte st (.fn f a b)=true:=nrfl _
theorem q_ok_ref (i k:Nat) (hk:k=st.ver i):zte st (.ref i k)=onRef (st.h i) false (fun _ _ _=>true) (fun _ _=>true) (fun _=>true):=by
 simp only[zte,hk,beq_self_eq_true,Bool.true_and];cases st.h i<;>rfl
theorem yc3 (es:Array MapEntry) (clk:Nat):zte st (.mapv es clk)=true:=nrfl _
theorem ydr (m:Option Nat):(Value.map m).oneCell'=true:=nrfl _
theorem ydq (k:IntKind) (n:Int):(Value.int k n).oneCell'=true:=nrfl _
theorem ydp (b:Bool):(Value.bool b).oneCell'=true:=nrfl _
theorem ydt (s:ByteArray):(Value.string s).oneCell'=true:=nrfl _
theorem yds (a:Option Addr) (n c:Nat):(Value.slice a n c).oneCell'=true:=nrfl _
theorem yce (m:Nat) (cs:List AV) (j:Nat):zp9 st m (.eptr cs j)=if j+m≤cs.length then some ((cs.drop j).take m) else none:=nrfl _
theorem ycf (m i k n j:Nat) (hk:k=st.ver i):zp9 st m (.rptr i k n j)=onBlk (st.h i) none (fun _ _ xs=>(xs[n]?).bind fun x=>if j+m≤x.cells.length then some ((x.cells.drop j).take m) else none) (fun cs=>if n=0∧j+m≤cs.length then some ((cs.drop j).take m) else none):=by
 simp only[zp9,hk,if_true]
 cases st.h i with
 | arr e sz xs=>simp only[onBlk];cases xs[n]? <;> rfl
 | _=>rfl
theorem ycr (cs:List AV):mkAV true cs=some (.agg cs):=nrfl _
theorem ycq (c:AV):mkAV false [c]=some c:=nrfl _
theorem zz8 (op:BinOp) (t:TypeId) (k:IntKind) (x y:Int):binAV P op t (.v (.int k x)) (.v (.int k y))=zon op k x y:=by simp[binAV]
theorem yaa (op:BinOp) (t:TypeId) (x y:ByteArray):binAV P op t (.v (.string x)) (.v (.string y))=ykz op x y:=nrfl _
theorem zz6 (op:BinOp) (t:TypeId) (x y:Bool):binAV P op t (.v (.bool x)) (.v (.bool y))=ze8 P op t x y:=nrfl _
theorem zz5 (op:BinOp) (t:TypeId) (xs ys:List AV):binAV P op t (.agg xs) (.agg ys)=(tFlat P t).bind fun ks=>(zi1 ks xs ys).bind (eqOp op):=nrfl _
theorem yas (b:Bool):eqOp .eql b=some (.v (.bool b)):=nrfl _
theorem yat (b:Bool):eqOp .neq b=some (.v (.bool !b)):=nrfl _
theorem q_ek_nil:zi1 [] [] []=some true:=nrfl _
theorem q_ek_int (ks:List Nat) (k:IntKind) (x y:Int) (ps qs:List AV):zi1 (0::ks) (.v (.int k x)::ps) (.v (.int k y)::qs)=(zi1 ks ps qs).map fun b=>(x==y)&&b:=by simp[zi1]
theorem q_ek_str (ks:List Nat) (x y:ByteArray) (ps qs:List AV):zi1 (1::ks) (.v (.string x)::ps) (.v (.string y)::qs)=(zi1 ks ps qs).map fun b=>(x.toList==y.toList)&&b:=nrfl _
theorem ybw (k:IntKind) (x y:Int):zon .add k x y=some (.v (.int k (k.wrap (x+y)))):=nrfl _
theorem ycb (k:IntKind) (x y:Int):zon .sub k x y=some (.v (.int k (k.wrap (x - y)))):=nrfl _
theorem yb4 (k:IntKind) (x y:Int):zon .mul k x y=some (.v (.int k (k.wrap (x * y)))):=nrfl _
theorem yb6 (k:IntKind) (x y:Int):zon .quo k x y=if y=0 then none else some (.v (.int k (k.wrap (x.tdiv y)))):=nrfl _
theorem yb7 (k:IntKind) (x y:Int):zon .rem k x y=if y=0 then none else some (.v (.int k (x.tmod y))):=nrfl _
theorem ybz (k:IntKind) (x y:Int):zon .eql k x y=some (.v (.bool (x==y))):=nrfl _
theorem yb5 (k:IntKind) (x y:Int):zon .neq k x y=some (.v (.bool (x != y))):=nrfl _
theorem yb3 (k:IntKind) (x y:Int):zon .lss k x y=some (.v (.bool (x < y))):=nrfl _
theorem yb2 (k:IntKind) (x y:Int):zon .leq k x y=some (.v (.bool (x≤y))):=nrfl _
theorem yb1 (k:IntKind) (x y:Int):zon .gtr k x y=some (.v (.bool (y < x))):=nrfl _
theorem yb0 (k:IntKind) (x y:Int):zon .geq k x y=some (.v (.bool (y≤x))):=nrfl _
theorem ye0 (x y:ByteArray):ykz .eql x y=some (.v (.bool (x.toList==y.toList))):=nrfl _
theorem ye3 (x y:ByteArray):ykz .neq x y=some (.v (.bool (!(x.toList==y.toList)))):=nrfl _
theorem ye2 (x y:ByteArray):ykz .lss x y=some (.v (.bool (Op.bytesLess x.toList y.toList))):=nrfl _
theorem ye1 (x y:ByteArray):ykz .leq x y=some (.v (.bool (Op.bytesLess x.toList y.toList||x.toList==y.toList))):=nrfl _
theorem yab (t:TypeId) (x y:Bool) (h:P.underlying t=some .bool):ze8 P .eql t x y=some (.v (.bool (x==y))):=by simp[ze8,h]
theorem yac (t:TypeId) (x y:Bool) (h:P.underlying t=some .bool):ze8 P .neq t x y=some (.v (.bool (!(x==y)))):=by simp[ze8,h]
theorem q_not (b:Bool):unAV .not (.v (.bool b))=some (.v (.bool !b)):=nrfl _
theorem yb9 (k:IntKind) (x:Int):zon .shr k x 1=some (.v (.int k (x.fdiv 2))):=nrfl _
theorem q_conv (s d:TypeId) (k:IntKind) (n:Int):zhg P s d (.v (.int k n))=(tInt P d).map fun k=>.v (.int k (k.wrap n)):=nrfl _
theorem yax (t:TypeId) (f:Nat) (cs:List AV) (j:Nat):zju P st t f (.eptr cs j)=(yls P t f).map fun x=>.eptr cs (j+x.1):=nrfl _
theorem yay (t:TypeId) (f i k n j:Nat) (hk:k=st.ver i):zju P st t f (.rptr i k n j)=(yls P t f).map fun x=>.rptr i k n (j+x.1):=by simp[zju,hk]
theorem q_ia_lst (t:TypeId) (sz:Nat) (xs:List AV) (k:IntKind) (i:Int):zod P st t (.lst sz xs) (.v (.int k i))=if ((tElem P t).bind (tSize P))=some sz∧0≤i∧i < xs.length then (xs[i.toNat]?).map fun x=>.eptr x.cells 0 else none:=nrfl _
theorem ybs (t:TypeId) (cs:List AV) (j:Nat) (k:IntKind) (i:Int):zod P st t (.eptr cs j) (.v (.int k i))=(tArr P t).bind fun x=>if 0≤i∧i < x.1 then some (.eptr cs (j+i.toNat * x.2)) else none:=nrfl _
theorem ybt (t:TypeId) (id v n j:Nat) (k:IntKind) (i:Int) (hk:v=st.ver id):zod P st t (.rptr id v n j) (.v (.int k i))=(tArr P t).bind fun x=>if 0≤i∧i < x.1 then some (.rptr id v n (j+i.toNat * x.2)) else none:=by simp[zod,hk]
theorem q_ix_str (t:TypeId) (s:ByteArray) (k:IntKind) (i:Int):zob P t (.v (.string s)) (.v (.int k i))=if tStr P t=true∧0≤i then (s[i.toNat]?).map fun b=>.v (.int .u8 b.toNat) else none:=nrfl _
theorem ycg (t:TypeId) (sz:Nat) (xs:List AV):lenAV P st t (.lst sz xs)=(tElem P t).map fun _=>.v (.int .i64 xs.length):=nrfl _
theorem yci (t:TypeId) (i k:Nat) (hk:k=st.ver i):lenAV P st t (.ref i k)=onRef (st.h i) none (fun _ _ xs=>(tElem P t).map fun _=>.v (.int .i64 xs.length)) (fun es _=>(tMap P t).map fun _=>.v (.int .i64 es.size)) (fun _=>none):=by
 simp only[lenAV,hk,if_true];cases st.h i<;>rfl
theorem q_lookup (t:TypeId) (m k:Operand) (ok:Bool):evalV P st (.lookup t m k ok)=zqu P st t ok (st.ev m) (st.ev k):=nrfl _
theorem ycl (t:TypeId) (ok:Bool) (es:Array MapEntry) (clk:Nat) (q:AV):zqu P st t ok (.mapv es clk) q=zqr P t ok es q:=nrfl _
theorem ycm (t:TypeId) (ok:Bool) (i k:Nat) (q:AV) (hk:k=st.ver i):zqu P st t ok (.ref i k) q=onRef (st.h i) none (fun _ _ _=>none) (fun es _=>zqr P t ok es q) (fun m=>lookM P t ok m.f q):=by
 simp only[zqu,hk,if_true];cases st.h i<;>rfl
theorem q_lookAV (t:TypeId) (ok:Bool) (es:Array MapEntry) (n:Int):zqr P t ok es (.v (.int .i64 n))=(tMap P t).bind fun x=>if tInt P x.1=some .i64∧intM es=true then
 (tZero P x.2).map fun z=>if ok=true then .tup [.v ((mget es n).getD z),.v (.bool (mget es n).isSome)] else .v ((mget es n).getD z) else none:=nrfl _
theorem q_setMap_σ (i:Nat) (es:Array MapEntry) (clk:Nat):(st.setMap i es clk).σ=st.σ:=nrfl _
theorem yeu (i:Nat) (es:Array MapEntry) (clk:Nat) (j:Nat):(st.setMap i es clk).ver j=if j=i then st.ver i+1 else st.ver j:=nrfl _
theorem yet (i:Nat) (es:Array MapEntry) (clk:Nat) (j:Nat):(st.setMap i es clk).h j=if j=i then .map es clk else st.h j:=nrfl _
def zt4 (b:Blk) (f:Array MapEntry→Nat→Prop):Prop :=
 match b with
 | .map es clk=>f es clk
 | _=>False
theorem q_onMapB (es:Array MapEntry) (clk:Nat) (f:Array MapEntry→Nat→Prop):zt4 (.map es clk) f=f es clk:=nrfl _
@[congr] theorem onMapB_congr {b b':Blk} {f:Array MapEntry→Nat→Prop} (h:b=b'):zt4 b f=zt4 b' f:=by rw[h]
theorem q_onMap (i k:Nat) (f:Nat→Array MapEntry→Nat→Prop) (hk:k=st.ver i):onMap st (.ref i k) f=zt4 (st.h i) (f i):=by
 subst hk;simp only[onMap,true_and];rfl
theorem q_onKey (n:Int) (x:Value) (f:Int→Value→Prop):onKey (.v (.int .i64 n)) (.v x) f=f n x:=nrfl _
theorem ybq:znm st none=True:=nrfl _
def zos (p:AV):Prop:=∃ k n,p=.v (.int k n)
theorem ycd (k:IntKind) (n:Int):zos (.v (.int k n))=True:=eq_true ⟨k,n,rfl⟩
theorem ybr (x:Operand):znm st (some x)=zos (st.ev x):=nrfl _
theorem yc7 (k:IntKind) (n:Int) (f:KeyQ→Prop) (no:Prop):zt0 (.v (.int k n)) f no=no:=nrfl _
theorem ycj (t:TypeId) (s:ByteArray):lenAV P st t (.v (.string s))=if tStr P t=true then some (.v (.int .i64 s.size)) else none:=nrfl _
theorem q_min (k k':IntKind) (x y:Int):minAV (.v (.int k x)) (.v (.int k' y))=some (.v (.int k (if y < x then y else x))):=nrfl _
theorem q_max (k k':IntKind) (x y:Int):maxAV (.v (.int k x)) (.v (.int k' y))=some (.v (.int k (if x < y then y else x))):=nrfl _
theorem q_move (x:Operand):evalV P st (.move x)=some (st.ev x):=nrfl _
theorem q_assign (x:Operand):evalV P st (.assign x)=some (st.ev x):=nrfl _
theorem q_pick (c x y:Operand) (b:Bool) (h:st.ev c=.v (.bool b)):evalV P st (.pick c x y)=some (if b=true then st.ev x else st.ev y):=by simp[evalV,h]
theorem q_load (t:TypeId) (x:Operand):evalV P st (.load t x)=ldAV P st t (st.ev x):=nrfl _
theorem q_binOp (op:BinOp) (t:TypeId) (x y:Operand) (k:TypeId):evalV P st (.binOp op t x y k)=binAV P op t (st.ev x) (st.ev y):=nrfl _
theorem q_unOp (op:UnOp) (t:TypeId) (x:Operand):evalV P st (.unOp op t x)=unAV op (st.ev x):=nrfl _
theorem yan (s d:TypeId) (x:Operand):evalV P st (.convert s d x)=if (P.underlying s).isSome then zhg P s d (st.ev x) else none:=nrfl _
theorem ycn (f:Fn) (a b:Array Operand):evalV P st (.makeFunc f a b)=some (.fn f (a.toList.map st.ev) (b.toList.map st.ev)):=nrfl _
theorem yaz (t:TypeId) (x:Operand) (f:Nat):evalV P st (.fieldAddr t x f)=zju P st t f (st.ev x):=nrfl _
theorem ycu (x:Operand):evalV P st (.nilCheck x)=sureP st (st.ev x):=nrfl _
theorem ye4 (cs:List AV) (j:Nat):sureP st (.eptr cs j)=some (.eptr cs j):=nrfl _
theorem ye5 (id k i j:Nat) (hk:k=st.ver id):sureP st (.rptr id k i j)=some (.rptr id k i j):=by simp[sureP,hk]
theorem q_field (t:TypeId) (x:Operand) (f:Nat):evalV P st (.field t x f)=zjs P t f (st.ev x):=nrfl _
theorem ybu (t:TypeId) (x i:Operand):evalV P st (.indexAddr t x i)=zod P st t (st.ev x) (st.ev i):=nrfl _
theorem ybv (t:TypeId) (k:IntKind) (i:Int) (cs:List AV):zob P t (.agg cs) (.v (.int k i))=match tArrE P t with
 | some (n,e)=>match tAgg P e,tSize P e with
  | some b,some m=>if 0≤i∧i < n∧i.toNat * m+m≤cs.length then mkAV b ((cs.drop (i.toNat * m)).take m) else none
  | _,_=>none
 | none=>none:=nrfl _
theorem q_index (t:TypeId) (x i:Operand):evalV P st (.index t x i)=zob P t (st.ev x) (st.ev i):=nrfl _
theorem yaw (x:Operand) (i:Nat) (cs:List AV) (h:st.ev x=.tup cs):evalV P st (.extract x i)=cs[i]? := by simp[evalV,h]
theorem q_slice (t:TypeId) (x:Operand) (lo hi mx:Option Operand):evalV P st (.slice t x lo hi mx)=yi9 P st t lo hi mx (st.ev x):=nrfl _
theorem q_len (x:Operand) (t:TypeId):evalV P st (.call { callee:=.builtin .len,args:=#[x],argTypes:=#[t] })=lenAV P st t (st.ev x):=nrfl _
theorem q_cmin (x y:Operand) (ts:Array TypeId):evalV P st (.call { callee:=.builtin .min,args:=#[x,y],argTypes:=ts })=minAV (st.ev x) (st.ev y):=nrfl _
theorem q_cmax (x y:Operand) (ts:Array TypeId):evalV P st (.call { callee:=.builtin .max,args:=#[x,y],argTypes:=ts })=maxAV (st.ev x) (st.ev y):=nrfl _
theorem q_ia_ref (t:TypeId) (j k:Nat) (kk:IntKind) (i:Int) (hk:k=st.ver j):zod P st t (.ref j k) (.v (.int kk i))=onArr (st.h j) none fun _ sz xs=>if ((tElem P t).bind (tSize P))=some sz∧0≤i∧i < xs.length then some (.rptr j k i.toNat 0) else none:=by
 simp only[zod,hk,if_true];cases st.h j<;>rfl
theorem ya0 (t:TypeId) (f:Nat) (cs:List AV):zjs P t f (.agg cs)=match yls P t f with
 | some (off,u)=>match tAgg P u,tSize P u with
  | some b,some m=>if off+m≤cs.length then mkAV b ((cs.drop off).take m) else none
  | _,_=>none
 | none=>none:=nrfl _
theorem yad (d:Nat):zfg st d none=some d:=nrfl _
theorem q_natOf (k:IntKind) (i:Int):natOf (.v (.int k i))=if 0≤i then some i.toNat else none:=nrfl _
theorem q_bound (d:Nat) (x:Operand):zfg st d (some x)=natOf (st.ev x):=by
 show (match st.ev x with
  | .v (.int _ i)=>if 0≤i then some i.toNat else none
  | _=>none)=natOf (st.ev x)
 generalize st.ev x=p
 cases p with
 | v y=>cases y<;>rfl
 | _=>rfl
theorem yex (sz:Nat) (xs:List AV):srcAV st sz (.lst sz xs)=some xs:=by simp[srcAV]
theorem yey (sz i k:Nat) (hk:k=st.ver i):srcAV st sz (.ref i k)=onArr (st.h i) none fun _ sz' xs=>if sz'=sz then some xs else none:=by
 simp only[srcAV,hk,if_true];cases st.h i<;>rfl
theorem yao (d e sz:Nat):zib st d e sz (.v (.slice none 0 0))=some (d,[]):=nrfl _
theorem yap (d e sz i k:Nat) (hk:k=st.ver i):zib st d e sz (.ref i k)=onArr (st.h i) none fun e' sz' xs=>if e'=e∧sz'=sz then some (i,xs) else none:=by
 simp only[zib,hk,if_true];cases st.h i<;>rfl
theorem q_ldAV (t:TypeId) (x:AV):ldAV P st t x=(tAgg P t).bind fun b=>(tSize P t).bind fun m=>(zp9 st m x).bind (mkAV b):=by
 unfold ldAV
 cases tAgg P t<;>cases tSize P t<;>rfl
theorem q_sl_lst (t:TypeId) (lo hi:Option Operand) (sz:Nat) (xs:List AV):yi9 P st t lo hi none (.lst sz xs)=if ((tElem P t).bind (tSize P))=some sz then
 (zfg st 0 lo).bind fun l=>(zfg st xs.length hi).bind fun h=>if l≤h∧h≤xs.length then some (.lst sz ((xs.drop l).take (h - l))) else none else none:=by
 simp only[yi9]
 split
 · cases zfg st 0 lo<;>cases zfg st xs.length hi<;>rfl
 · rfl
theorem yev (t:TypeId) (lo:Option Operand) (h' m':Operand) (sz:Nat) (xs:List AV):yi9 P st t lo (some h') (some m') (.lst sz xs)=if ((tElem P t).bind (tSize P))=some sz then
 (zfg st 0 lo).bind fun l=>(zfg st xs.length (some h')).bind fun h=>if l≤h∧h≤xs.length then (zfg st 0 (some m')).bind fun m=>if h≤m∧m≤xs.length then some (if m=h then .full sz ((xs.drop l).take (h - l)) else .lst sz ((xs.drop l).take (h - l))) else none else none else none:=by
 simp only[yi9]
 split
 · cases zfg st 0 lo<;>cases zfg st xs.length (some h')<;>first|rfl|skip
   simp only[Option.bind_some]
   split
   · cases zfg st 0 (some m')<;>rfl
   · rfl
 · rfl
theorem q_sl_str (t:TypeId) (lo hi:Option Operand) (s:ByteArray):yi9 P st t lo hi none (.v (.string s))=if tStr P t=true then
 (zfg st 0 lo).bind fun l=>(zfg st s.size hi).bind fun h=>if l≤h∧h≤s.size then some (.v (.string (s.extract l h))) else none else none:=by
 simp only[yi9,Option.isNone_none,and_true]
 split
 · cases zfg st 0 lo<;>cases zfg st s.size hi<;>rfl
 · rfl
theorem q_litAV (t:TypeId) (n:Nat) (ps:Array (Nat×Operand)):litAV P st t n ps=(tElem P t).bind fun e=>(tSize P e).bind fun sz =>
 if (ps.toList.map (·.1))=List.range n∧((zi6 st ps).all fun x=>zth st x.2&&x.2.cells.length==sz)=true∧(n * sz≤16777216∧n≤16777216)∧(tZero P e).map (·.cells.size)=some sz then some (e,sz,(zi6 st ps).map (·.2)) else none:=by
 unfold litAV
 cases tElem P t with
 | none=>rfl
 | some e=>cases h:tSize P e<;>simp only[Option.bind_some,h]<;>rfl
theorem yae (t:TypeId) (ps:Array (Nat×Operand)) (pl:List (Nat×Nat)) (h:yns P t=some pl):zfi P st t ps=if (zi6 st ps).all (fun x=>zth st x.2)=true then
 (tZero P t).bind fun z=>(fillL (fun i=>pl[i]?) (yps z) (zi6 st ps)).map .agg else none:=by
 simp only[zfi,h]
 split
 · cases tZero P t<;>rfl
 · rfl
theorem q_store (t:TypeId) (i k n j:Nat) (q:AV) (hk:k=st.ver i):ykv P st t (.rptr i k n j) q=if tSize P t=some q.cells.length∧zth st q=true then onBlk (st.h i) none (fun e sz xs=>(xs[n]?).bind fun x=>if j=0∧q.cells.length=sz then some (st.setH i (.arr e sz (xs.set n q))) else match x with
 | .agg cs=>if j+q.cells.length≤cs.length then some (st.setH i (.arr e sz (xs.set n (.agg (yjt cs j q.cells))))) else none
 | _=>none) (fun cs=>if n=0∧j+q.cells.length≤cs.length then some (st.setH i (.box (yjt cs j q.cells))) else none) else none:=by
 simp only[ykv,hk,true_and,St.setH]
 split
 · cases st.h i with
   | arr e sz xs=>simp only[onBlk];cases xs[n]? <;> rfl
   | _=>rfl
 · rfl
def okAll (st:St) (ys:List AV):Prop:=∀ c∈ys,zth st c=true
theorem yc0:okAll st []=True:=eq_true fun _ h=>by cases h
theorem ycy (y:AV) (ys:List AV):okAll st (y::ys)=(zth st y=true∧okAll st ys):=by
 simp only[okAll,List.mem_cons,forall_eq_or_imp]
theorem yc1 (n:Nat) (ys:List AV) (h:okAll st ys):okAll st (ys.take n):=fun c hc=>h c (List.mem_of_mem_take hc)
theorem ycz (n:Nat) (ys:List AV) (h:okAll st ys):okAll st (ys.drop n):=fun c hc=>h c (List.mem_of_mem_drop hc)
theorem q_out_v (x:Value):outAV st (.v x)=some (.v x):=nrfl _
theorem ydx (cs:List AV):outAV st (.agg cs)=some (.agg cs):=nrfl _
theorem ydy (sz:Nat) (xs:List AV):outAV st (.lst sz xs)=some (.lst sz xs):=nrfl _
theorem ydz (i k:Nat) (hk:k=st.ver i):outAV st (.ref i k)=onArr (st.h i) none fun e sz xs=>some (.fresh e sz xs):=by
 simp only[outAV,hk,if_true];cases st.h i<;>rfl
theorem yeh (t:Tmp):resAV P st (.tmp t)=some (st.σ t):=nrfl _
theorem yeg (p:Tmp) (t:TypeId):resAV P st (.cell p t)=ldAV P st t (st.σ p):=nrfl _
theorem yei:yf7 P st []=some (.tup []):=by simp[yf7]
def out1 (st:St):AV→Option AV
 | .tup _=>none
 | r=>outAV st r
theorem q_o1_v (x:Value):out1 st (.v x)=some (.v x):=nrfl _
theorem q_o1_agg (cs:List AV):out1 st (.agg cs)=some (.agg cs):=nrfl _
theorem q_o1_lst (sz:Nat) (xs:List AV):out1 st (.lst sz xs)=some (.lst sz xs):=nrfl _
theorem q_o1_fn (f:Fn) (a b:List AV):out1 st (.fn f a b)=some (.fn f a b):=nrfl _
theorem q_o1_ref (i k:Nat) (hk:k=st.ver i):out1 st (.ref i k)=onArr (st.h i) none fun e sz xs=>some (.fresh e sz xs):=ydz _ _ hk
theorem ycx (es:Array MapEntry) (clk:Nat):out1 st (.mapv es clk)=some (.mapv es clk):=nrfl _
theorem yej (v:ResultVar):yf7 P st [v]=(resAV P st v).bind (out1 st):=by
 simp only[yf7];congr 1
def refs:List AV→List Nat
 | []=>[]
 | p::ps=>match refId p with
  | some i=>i::refs ps
  | none=>refs ps
theorem yf1:∀ l:List AV,l.filterMap refId=refs l
 | []=>rfl
 | p::l=>by
  rw[List.filterMap_cons,refs,yf1 l]
  cases refId p<;>rfl
theorem yek (v w:ResultVar):yf7 P st [v,w]=(resAV P st v).bind fun a=>(resAV P st w).bind fun b=>if (refs [a,b]).Nodup then (outAV st a).bind fun a=>(outAV st b).map fun b=>.tup [a,b] else none:=by
 simp only[yf7,List.mapM_cons,List.mapM_nil,Option.bind_eq_bind,Option.pure_def]
 cases resAV P st v with
 | none=>rfl
 | some a =>
  cases resAV P st w with
  | none=>rfl
  | some b =>
   simp only[Option.bind_some,yf1]
   split
   · cases h1:outAV st a<;>cases h2:outAV st b<;>simp[List.mapM_cons,h1,h2]
   · rfl
theorem yee:refs []=[]:=nrfl _
theorem q_refs_v (x:Value) (l:List AV):refs (.v x::l)=refs l:=nrfl _
theorem yec (cs:List AV) (l:List AV):refs (.agg cs::l)=refs l:=nrfl _
theorem yed (sz:Nat) (xs:List AV) (l:List AV):refs (.lst sz xs::l)=refs l:=nrfl _
theorem yef (i k:Nat) (l:List AV):refs (.ref i k::l)=i::refs l:=nrfl _
theorem q_take_v (d:Nat) (x:Value):St.take d (.v x) st=(st,.v x):=nrfl _
theorem ye6 (d:Nat) (cs:List AV):St.take d (.agg cs) st=(st,.agg cs):=nrfl _
theorem yfa (d sz:Nat) (xs:List AV):St.take d (.lst sz xs) st=(st,.lst sz xs):=nrfl _
theorem ye7 (d j:Nat) (cs:List AV):St.take d (.eptr cs j) st=(st,.eptr cs j):=nrfl _
theorem ye8 (d:Nat) (f:Fn) (a b:List AV):St.take d (.fn f a b) st=(st,.fn f a b):=nrfl _
theorem ye9 (d e sz:Nat) (xs:List AV):St.take d (.fresh e sz xs) st=(st.setArr d e sz xs,.ref d (st.ver d+1)):=nrfl _
theorem yfc (d:Nat) (rs:List AV):St.take d (.tup rs) st=((St.takeComps d 0 rs st).1,.tup (St.takeComps d 0 rs st).2):=nrfl _
theorem q_tc_nil (d i:Nat):St.takeComps d i [] st=(st,[]):=nrfl _
theorem yfd (d i e sz:Nat) (xs rs:List AV):St.takeComps d i (.fresh e sz xs::rs) st=((St.takeComps d (i+1) rs (st.setArr (zg3 d i) e sz xs)).1,.ref (zg3 d i) (st.ver (zg3 d i)+1)::(St.takeComps d (i+1) rs (st.setArr (zg3 d i) e sz xs)).2):=nrfl _
theorem q_tc_v (d i:Nat) (x:Value) (rs:List AV):St.takeComps d i (.v x::rs) st=((St.takeComps d (i+1) rs st).1,.v x::(St.takeComps d (i+1) rs st).2):=nrfl _
theorem q_tc_agg (d i:Nat) (cs:List AV) (rs:List AV):St.takeComps d i (.agg cs::rs) st=((St.takeComps d (i+1) rs st).1,.agg cs::(St.takeComps d (i+1) rs st).2):=nrfl _
theorem q_tc_lst (d i sz:Nat) (xs:List AV) (rs:List AV):St.takeComps d i (.lst sz xs::rs) st=((St.takeComps d (i+1) rs st).1,.lst sz xs::(St.takeComps d (i+1) rs st).2):=nrfl _
theorem q_bo_v (x:Value):ze9 st (.v x)=.v x:=nrfl _
theorem q_bo_lst (sz:Nat) (xs:List AV):ze9 st (.lst sz xs)=.lst sz xs:=nrfl _
theorem q_bo_ref (i k:Nat) (hk:k=st.ver i):ze9 st (.ref i k)=onRef (st.h i) .junk (fun _ sz xs=>.lst sz xs) (fun es clk=>.mapv es clk) (fun m=>.amapv m.f):=by
 simp only[ze9,zfc,zfa,hk,if_true];cases st.h i<;>rfl
theorem q_fz_v (x:Value):fz st id (.v x)=.v x:=nrfl _
theorem q_fz_lst (sz:Nat) (xs:List AV):fz st id (.lst sz xs)=.lst sz xs:=nrfl _
theorem ybk (cs:List AV) (j:Nat):fz st id (.eptr cs j)=.eptr cs j:=nrfl _
theorem q_fz_ref (i k:Nat):fz st id (.ref i k)=fz0 st id (.ref i k):=nrfl _
theorem ybm (i k n j:Nat):fz st id (.rptr i k n j)=fz0 st id (.rptr i k n j):=nrfl _
theorem q_fz_agg (cs:List AV):fz st id (.agg cs)=.agg (cs.map (fz0 st id)):=nrfl _
theorem q_fz_fn (f:Fn) (a b:List AV):fz st id (.fn f a b)=.fn f (a.map (fz0 st id)) (b.map (fz0 st id)):=nrfl _
theorem yba (cs:List AV) (j:Nat):fz0 st id (.eptr cs j)=.eptr cs j:=nrfl _
theorem ybe (k:Nat) (hk:k=st.ver id):fz0 st id (.ref id k)=onRef (st.h id) (.ref id k) (fun _ sz xs=>.lst sz xs) (fun es clk=>.mapv es clk) (fun m=>.amapv m.f):=by
 simp only[fz0,hk,and_self,if_true];cases st.h id<;>rfl
theorem ybc (i k:Nat) (hi:i≠id):fz0 st id (.ref i k)=.ref i k:=by simp[fz0,hi]
theorem ybd (i k n j:Nat) (hi:i≠id):fz0 st id (.rptr i k n j)=.rptr i k n j:=by simp[fz0,hi]
theorem ya9 (k n j:Nat) (hk:k=st.ver id):fz0 st id (.rptr id k n j)=onBlk (st.h id) (.rptr id k n j) (fun _ _ xs=>(xs[n]?).elim (.rptr id k n j) fun x=>.eptr x.cells j) (fun cs=>if n=0 then .eptr cs j else .rptr id k n j):=by
 simp only[fz0,hk,and_self,if_true]
 cases st.h id with
 | arr e sz xs=>simp only[onBlk];cases xs[n]? <;> rfl
 | _=>rfl
theorem ybl (es:Array MapEntry) (clk:Nat):fz st id (.mapv es clk)=.mapv es clk:=nrfl _
theorem yfb (d:Nat) (es:Array MapEntry) (clk:Nat):St.take d (.mapv es clk) st=(st,.mapv es clk):=nrfl _
theorem yak (es:Array MapEntry) (clk:Nat):(AV.mapv es clk).cells=[.mapv es clk]:=nrfl _
theorem ybi (es:Array MapEntry) (clk:Nat):fzB st id (.map es clk)=.map es clk:=nrfl _
theorem ybg (e sz:Nat) (xs:List AV):fzB st id (.arr e sz xs)=.arr e sz xs:=nrfl _
theorem ybh (cs:List AV):fzB st id (.box cs)=.box (cs.map (fz st id)):=nrfl _
theorem q_nf_lst (sz:Nat) (xs:List AV):zsn (.lst sz xs)=true:=nrfl _
end
section
variable {G:Ctx} {own:List Nat} {st:St} {K:St→Prop} {KA:AV→Prop} {Q:Exit→St→Prop} {QS:St→Prop} {ops:Array Oper} {dst:Option Tmp} {ty:TypeId} {po:String} {af:Array Edge} {gd:Option (Nat×Bool)}
theorem w_move (x:Operand):vcOp G own K ⟨dst,.move x,ty,po,af,gd⟩ st=bindP (evalV G.P st (.move x)) fun r=>K (st.put dst r):=nrfl _
theorem c_move (x:Operand):zf3 G ⟨dst,.move x,ty,po,af,gd⟩ KA st=bindP (evalV G.P st (.move x)) KA:=nrfl _
theorem w_assign (x:Operand):vcOp G own K ⟨dst,.assign x,ty,po,af,gd⟩ st=bindP (evalV G.P st (.assign x)) fun r=>K (st.put dst r):=nrfl _
theorem c_assign (x:Operand):zf3 G ⟨dst,.assign x,ty,po,af,gd⟩ KA st=bindP (evalV G.P st (.assign x)) KA:=nrfl _
theorem w_pick (c x y:Operand):vcOp G own K ⟨dst,.pick c x y,ty,po,af,gd⟩ st=bindP (evalV G.P st (.pick c x y)) fun r=>K (st.put dst r):=nrfl _
theorem c_pick (c x y:Operand):zf3 G ⟨dst,.pick c x y,ty,po,af,gd⟩ KA st=bindP (evalV G.P st (.pick c x y)) KA:=nrfl _
theorem w_load (t:TypeId) (x:Operand):vcOp G own K ⟨dst,.load t x,ty,po,af,gd⟩ st=bindP (evalV G.P st (.load t x)) fun r=>K (st.put dst r):=nrfl _
theorem c_load (t:TypeId) (x:Operand):zf3 G ⟨dst,.load t x,ty,po,af,gd⟩ KA st=bindP (evalV G.P st (.load t x)) KA:=nrfl _
theorem w_unOp (op:UnOp) (t:TypeId) (x:Operand):vcOp G own K ⟨dst,.unOp op t x,ty,po,af,gd⟩ st=bindP (evalV G.P st (.unOp op t x)) fun r=>K (st.put dst r):=nrfl _
theorem c_unOp (op:UnOp) (t:TypeId) (x:Operand):zf3 G ⟨dst,.unOp op t x,ty,po,af,gd⟩ KA st=bindP (evalV G.P st (.unOp op t x)) KA:=nrfl _
theorem yqc (t u:TypeId) (x:Operand):vcOp G own K ⟨dst,.convert t u x,ty,po,af,gd⟩ st=zuc (zoq G.P u) (st.ev x) (fun b=>(tStr G.P t=true∧b.size≤140737488355328)∧K (st.put dst (.lst 1 (zfm b)))) (bindP (evalV G.P st (.convert t u x)) fun r=>K (st.put dst r)):=nrfl _
theorem ydk (s:ByteArray) (f:ByteArray→Prop) (no:Prop):zuc true (.v (.string s)) f no=f s:=nrfl _
theorem ydj (p:AV) (f:ByteArray→Prop) (no:Prop):zuc false p f no=no:=by cases p<;>rfl
theorem yqn (f:Fn) (aas' bs:Array Operand):vcOp G own K ⟨dst,.makeFunc f aas' bs,ty,po,af,gd⟩ st=bindP (evalV G.P st (.makeFunc f aas' bs)) fun r=>K (st.put dst r):=nrfl _
theorem yqh (t:TypeId) (x:Operand) (n:Nat):vcOp G own K ⟨dst,.fieldAddr t x n,ty,po,af,gd⟩ st=bindP (evalV G.P st (.fieldAddr t x n)) fun r=>K (st.put dst r):=nrfl _
theorem zfu (t:TypeId) (x:Operand) (n:Nat):zf3 G ⟨dst,.fieldAddr t x n,ty,po,af,gd⟩ KA st=bindP (evalV G.P st (.fieldAddr t x n)) KA:=nrfl _
theorem yqs (x:Operand):vcOp G own K ⟨dst,.nilCheck x,ty,po,af,gd⟩ st=bindP (evalV G.P st (.nilCheck x)) fun r=>K (st.put dst r):=nrfl _
theorem zfw (x:Operand):zf3 G ⟨dst,.nilCheck x,ty,po,af,gd⟩ KA st=bindP (evalV G.P st (.nilCheck x)) KA:=nrfl _
theorem w_field (t:TypeId) (x:Operand) (n:Nat):vcOp G own K ⟨dst,.field t x n,ty,po,af,gd⟩ st=bindP (evalV G.P st (.field t x n)) fun r=>K (st.put dst r):=nrfl _
theorem yqm (t:TypeId) (x i:Operand):vcOp G own K ⟨dst,.indexAddr t x i,ty,po,af,gd⟩ st=bindP (evalV G.P st (.indexAddr t x i)) fun r=>K (st.put dst r):=nrfl _
theorem zfv (t:TypeId) (x i:Operand):zf3 G ⟨dst,.indexAddr t x i,ty,po,af,gd⟩ KA st=bindP (evalV G.P st (.indexAddr t x i)) KA:=nrfl _
theorem w_index (t:TypeId) (x i:Operand):vcOp G own K ⟨dst,.index t x i,ty,po,af,gd⟩ st=bindP (evalV G.P st (.index t x i)) fun r=>K (st.put dst r):=nrfl _
theorem w_lookup (t:TypeId) (m k:Operand) (ok:Bool):vcOp G own K ⟨dst,.lookup t m k ok,ty,po,af,gd⟩ st=bindP (evalV G.P st (.lookup t m k ok)) fun r=>K (st.put dst r):=nrfl _
theorem c_lookup (t:TypeId) (m k:Operand) (ok:Bool):zf3 G ⟨dst,.lookup t m k ok,ty,po,af,gd⟩ KA st=bindP (evalV G.P st (.lookup t m k ok)) KA:=nrfl _
theorem yqp (d:Tmp) (t:TypeId) (r:Option Operand):vcOp G own K ⟨some d,.makeMap t r,ty,po,af,gd⟩ st=((tMap G.P t).isSome=true∧znm st r∧K ((st.setMap (G.ids d) #[] 0).put (some d) (.ref (G.ids d) (st.ver (G.ids d)+1)))):=nrfl _
theorem yqq (t:TypeId) (m k x:Operand):vcOp G own K ⟨dst,.mapUpdate t m k x,ty,po,af,gd⟩ st=bindP (tMap G.P t) fun y=>zt0 (st.ev k) (fun q=>q.okT G.P y.1=true∧onMap st (st.ev m) fun id es clk=>qM es q=true∧onVal (st.ev x) fun v=>K ((st.setH id (.map (qput es clk q v).1 (qput es clk q v).2)).put dst .junk)) (tInt G.P y.1=some .i64∧zt1 st (st.ev m) (fun id mm=>ztz (st.ev k) fun n=>K ((st.setH id (.amap (mm.put n (st.ev x)))).put dst .junk)) (onMap st (st.ev m) fun id es clk=>intM es=true∧onKey (st.ev k) (st.ev x) fun n v=>K ((st.setH id (.map (mput es clk n v).1 (mput es clk n v).2)).put dst .junk))):=nrfl _
theorem w_clear (x:Operand) (t:TypeId):vcOp G own K ⟨dst,.call { callee:=.builtin .clear,args:=#[x],argTypes:=#[t] },ty,po,af,gd⟩ st=zt8 st (st.ev x) (fun id e sz xs lo hi=>tElem G.P t=some e∧bindP (tZero G.P e) fun z=>(z.cells.toList.all (·.oneCell')=true∧z.cells.size=sz∧0 < sz) ∧
 K ((st.setH id (.arr e sz (xs.take lo++List.replicate (hi - lo) (.agg (yps z))++xs.drop hi))).put dst (.tup [])))
 ((tMap G.P t).isSome=true∧onMap st (st.ev x) fun id _ clk=>K ((st.setH id (.map #[] clk)).put dst (.tup []))):=nrfl _
theorem yqg (x:Operand) (i:Nat):vcOp G own K ⟨dst,.extract x i,ty,po,af,gd⟩ st=bindP (evalV G.P st (.extract x i)) fun r=>K (st.put dst r):=nrfl _
theorem zft (x:Operand) (i:Nat):zf3 G ⟨dst,.extract x i,ty,po,af,gd⟩ KA st=bindP (evalV G.P st (.extract x i)) KA:=nrfl _
theorem w_slice (t:TypeId) (x:Operand) (lo hi mx:Option Operand):vcOp G own K ⟨dst,.slice t x lo hi mx,ty,po,af,gd⟩ st=zub (st.ev x) (fun id=>bindP (evalV G.P (st.freeze id) (.slice t x lo hi mx)) fun r=>K ((st.freeze id).put dst r)) (bindP (evalV G.P st (.slice t x lo hi mx)) fun r=>K (st.put dst r)):=nrfl _
theorem ydi (x:Value) (a:Nat→Prop) (b:Prop):zub (.v x) a b=b:=nrfl _
theorem ydh (sz:Nat) (xs:List AV) (a:Nat→Prop) (b:Prop):zub (.lst sz xs) a b=b:=nrfl _
theorem ydg (id k:Nat) (a:Nat→Prop) (b:Prop):zub (.ref id k) a b=b:=nrfl _
theorem c_slice (t:TypeId) (x:Operand) (lo hi mx:Option Operand):zf3 G ⟨dst,.slice t x lo hi mx,ty,po,af,gd⟩ KA st=bindP (evalV G.P st (.slice t x lo hi mx)) KA:=nrfl _
theorem w_clen (xs:Array Operand) (ts:Array TypeId):vcOp G own K ⟨dst,.call { callee:=.builtin .len,args:=xs,argTypes:=ts },ty,po,af,gd⟩ st=bindP (evalV G.P st (.call { callee:=.builtin .len,args:=xs,argTypes:=ts })) fun r=>K (st.put dst r):=nrfl _
theorem w_cmin (xs:Array Operand) (ts:Array TypeId):vcOp G own K ⟨dst,.call { callee:=.builtin .min,args:=xs,argTypes:=ts },ty,po,af,gd⟩ st=bindP (evalV G.P st (.call { callee:=.builtin .min,args:=xs,argTypes:=ts })) fun r=>K (st.put dst r):=nrfl _
theorem w_cmax (xs:Array Operand) (ts:Array TypeId):vcOp G own K ⟨dst,.call { callee:=.builtin .max,args:=xs,argTypes:=ts },ty,po,af,gd⟩ st=bindP (evalV G.P st (.call { callee:=.builtin .max,args:=xs,argTypes:=ts })) fun r=>K (st.put dst r):=nrfl _
theorem c_clen (xs:Array Operand) (ts:Array TypeId):zf3 G ⟨dst,.call { callee:=.builtin .len,args:=xs,argTypes:=ts },ty,po,af,gd⟩ KA st=bindP (evalV G.P st (.call { callee:=.builtin .len,args:=xs,argTypes:=ts })) KA:=nrfl _
theorem w_call (f:Operand) (xs:Array Operand) (ts:Array TypeId):vcOp G own K ⟨dst,.call { callee:=.value f,args:=xs,argTypes:=ts },ty,po,af,gd⟩ st=onFn2 (st.ev f) (fun g first captured=>CallSem G g (first++(xs.toList.map st.ev++captured)) dst K st) (fun l=>YieldSem G l (xs.toList.map st.ev) dst K st):=nrfl _
theorem c_call (f:Operand) (xs:Array Operand) (ts:Array TypeId):zf3 G ⟨dst,.call { callee:=.value f,args:=xs,argTypes:=ts },ty,po,af,gd⟩ KA st=onFn (st.ev f) fun g first captured=>CalmThen G g (first++(xs.toList.map st.ev++captured)) KA st:=nrfl _
theorem c_binOp (op:BinOp) (t u:TypeId) (x y:Operand):zf3 G ⟨dst,.binOp op t x y u,ty,po,af,gd⟩ KA st=bindP (evalV G.P st (.binOp op t x y u)) KA:=nrfl _
theorem c_build (t:TypeId) (ps:Array (Nat×Operand)):zf3 G ⟨dst,.build t ps,ty,po,af,gd⟩ KA st=bindP (zfi G.P st t ps) KA:=nrfl _
theorem zfs (t:TypeId) (n:Nat) (ps:Array (Nat×Operand)):zf3 G ⟨dst,.buildSlice t n ps,ty,po,af,gd⟩ KA st=bindP (if dst.isSome=true then (litAV G.P st t n ps).map fun x=>.lst x.2.1 x.2.2 else none) KA:=nrfl _
theorem w_alloc (d:Tmp) (t:TypeId):vcOp G own K ⟨some d,.alloc t,ty,po,af,gd⟩ st=bindP (tZero G.P t) fun z=>(yps z).all (zte st)=true∧K ((st.setBox (G.ids d) (yps z)).put (some d) (.rptr (G.ids d) (st.ver (G.ids d)+1) 0 0)):=nrfl _
theorem w_box (d:Tmp) (t:TypeId) (x:Operand):vcOp G own K ⟨some d,.box t x,ty,po,af,gd⟩ st=(zth st (st.ev x)=true∧if d∈own then K ((st.setBox (G.ids d) (st.ev x).cells).put (some d) (.rptr (G.ids d) (st.ver (G.ids d)+1) 0 0)) else K (st.put (some d) (.eptr (st.ev x).cells 0))):=nrfl _
theorem w_build (t:TypeId) (ps:Array (Nat×Operand)):vcOp G own K ⟨dst,.build t ps,ty,po,af,gd⟩ st=bindP (zfi G.P st t ps) fun r=>K (st.put dst r):=nrfl _
theorem yqb (d:Tmp) (t:TypeId) (n:Nat) (ps:Array (Nat×Operand)):vcOp G own K ⟨some d,.buildSlice t n ps,ty,po,af,gd⟩ st=bindP (litAV G.P st t n ps) fun x=>if d∈own then K ((st.setArr (G.ids d) x.1 x.2.1 x.2.2).put (some d) (.ref (G.ids d) (st.ver (G.ids d)+1))) else K (st.put (some d) (.lst x.2.1 x.2.2)):=nrfl _
theorem w_binOp (op:BinOp) (t u:TypeId) (x y:Operand):vcOp G own K ⟨dst,.binOp op t x y u,ty,po,af,gd⟩ st=onNil (zsl st (st.ev x))
 (fun xs=>st.ev y=.v (.slice none 0 0)∧(tElem G.P t).isSome=true∧((op=.eql∧∀ b:Bool,(b=true→xs=[])→K (st.put dst (.v (.bool b))))∨(op=.neq∧∀ b:Bool,(b=false→xs=[])→K (st.put dst (.v (.bool b))))))
 (bindP (evalV G.P st (.binOp op t x y u)) fun r=>K (st.put dst r)):=rfl
theorem yqo (t:TypeId) (x:Operand):vcOp G own K ⟨dst,.makeInterface t x,ty,po,af,gd⟩ st=bindP (evalV G.P st (.makeInterface t x)) fun r=>K (st.put dst r):=nrfl _
theorem w_invoke (p:Operand) (name:String) (xs:Array Operand) (ts:Array TypeId):vcOp G own K ⟨dst,.call { callee:=.invoke p name,args:=xs,argTypes:=ts },ty,po,af,gd⟩ st=ztu (st.ev p) fun t x=>bindP (ynr G.P t name) fun g=>CallSem G g (x::xs.toList.map st.ev) dst K st:=nrfl _
theorem w_delete (x k:Operand) (t t':TypeId):vcOp G own K ⟨dst,.call { callee:=.builtin .delete,args:=#[x,k],argTypes:=#[t,t'] },ty,po,af,gd⟩ st=bindP (tMap G.P t) fun y=>tInt G.P y.1=some .i64∧onMap st (st.ev x) fun id es clk=>intM es=true∧ztz (st.ev k) fun n=>K ((st.setH id (.map (mdel es n) clk)).put dst (.tup [])):=nrfl _
theorem w_copy (p q:Operand) (t t':TypeId):vcOp G own K ⟨dst,.call { callee:=.builtin .copy,args:=#[p,q],argTypes:=#[t,t'] },ty,po,af,gd⟩ st=bindP (tElem G.P t) fun e=>bindP (tSize G.P e) fun sz=>ztm st (st.ev p) fun id e' sz' xs=>(e'=e∧sz'=sz)∧bindP (srcAV st sz (st.ev q)) fun ys=>okAll st ys ∧
 K ((st.setH id (.arr e sz (ys.take xs.length++xs.drop ys.length))).put dst (.v (.int .i64 ((min ys.length xs.length:Nat):Int)))):=nrfl _
theorem w_make (d:Tmp) (t:TypeId) (l c:Operand):vcOp G own K ⟨some d,.makeSlice t l c,ty,po,af,gd⟩ st=bindP (tElem G.P t) fun e=>bindP (tSize G.P e) fun sz=>bindP (ylk G.P e) fun bytes=>bindP (tZero G.P e) fun z=>bindP (natOf (st.ev c)) fun C=>bindP (natOf (st.ev l)) fun L=>((L=0∨(L≤C∧z.cells.size=sz∧0 < sz∧zOK z=true))∧bytes * C≤281474976710656∧C≤281474976710656)∧K ((st.setArr (G.ids d) e sz (List.replicate L (yrv z))).put (some d) (.ref (G.ids d) (st.ver (G.ids d)+1))):=nrfl _
theorem w_store (t:TypeId) (p x:Operand):vcOp G own K ⟨dst,.store t p x,ty,po,af,gd⟩ st=bindP (ykv G.P st t (st.ev p) (st.ev x)) fun st'=>K (st'.put dst .junk):=nrfl _
theorem w_append (d:Tmp) (t t':TypeId) (p q:Operand):vcOp G own K ⟨some d,.call { callee:=.builtin .append,args:=#[p,q],argTypes:=#[t,t'] },ty,po,af,gd⟩ st=onStr (st.ev q) (fun s=>bindP (tElem G.P t) fun e=>(tStr G.P t'=true∧tSize G.P e=some 1∧ylk G.P e=some 1∧tZero G.P e=some (.int .u8 0))∧bindP (zib st (G.ids d) e 1 (st.ev p)) fun dx=>dx.2.length+s.size≤140737488355328 ∧
 K ((st.setArr dx.1 e 1 (dx.2++zfm s)).put (some d) (.ref dx.1 (st.ver dx.1+1)))) (t'=t∧bindP (tElem G.P t) fun e=>bindP (tSize G.P e) fun sz=>bindP (ylk G.P e) fun bytes=>((tZero G.P e).map (·.cells.size)=some sz∧0 < sz) ∧
 ztr (zmk (st.ev p)) (fun sz' xs=>sz'=sz∧bindP (srcAV st sz (st.ev q)) fun ys=>(okAll st ys∧(xs.length+ys.length) * bytes≤140737488355328∧xs.length+ys.length≤140737488355328) ∧
  (ys=[]→K (st.put (some d) (.lst sz xs)))∧(ys≠[]→K ((st.setArr (G.ids d) e sz (xs++ys)).put (some d) (.ref (G.ids d) (st.ver (G.ids d)+1)))))
 (onOsl (oslOf st (st.ev p)) (fun id e' sz' xs lo hi=>(e'=e∧sz'=sz)∧bindP (srcAV st sz (st.ev q)) fun ys=>(okAll st ys∧(hi - lo+ys.length) * bytes≤140737488355328∧hi - lo+ys.length≤140737488355328) ∧
  (ys=[]→lo=0∧K ((st.setArr id e sz (xs.take hi)).put (some d) (.ref id (st.ver id+1))))∧(ys≠[]→K ((st.setArr (G.ids d) e sz ((xs.drop lo).take (hi - lo)++ys)).put (some d) (.ref (G.ids d) (st.ver (G.ids d)+1)))))
 (bindP (zib st (G.ids d) e sz (st.ev p)) fun dx=>bindP (srcAV st sz (st.ev q)) fun ys=>(okAll st ys∧(dx.2.length+ys.length) * bytes≤140737488355328∧dx.2.length+ys.length≤140737488355328) ∧
 K ((st.setArr dx.1 e sz (dx.2++ys)).put (some d) (.ref dx.1 (st.ver dx.1+1)))))):=rfl
theorem ydw (x:Value):oslOf st (.v x)=none:=nrfl _
theorem ydv (i k:Nat):oslOf st (.ref i k)=none:=nrfl _
theorem ydu (i k lo hi:Nat) (hk:k=st.ver i):oslOf st (.osl i k lo hi true)=onArr (st.h i) none fun e sz xs=>if lo≤hi∧hi≤xs.length then some (i,e,sz,xs,lo,hi) else none:=by
 simp only[oslOf,hk,if_true];cases st.h i<;>rfl
theorem ya6 (i k lo hi:Nat) (f:Bool):zmk (.osl i k lo hi f)=none:=nrfl _
theorem q_sl_ref (P:Program) (t:TypeId) (lo hi:Option Operand) (i k:Nat) (hk:k=st.ver i):yi9 P st t lo hi none (.ref i k)=onArr (st.h i) none fun _ sz xs=>if ((tElem P t).bind (tSize P))=some sz then
 (zfg st 0 lo).bind fun l=>(zfg st xs.length hi).bind fun h=>if l≤h∧h≤xs.length then some (.osl i k l h false) else none else none:=by
 simp only[yi9,hk,if_true]
 cases st.h i with
 | arr e sz xs =>
  simp only[onArr]
  split
  · cases zfg st 0 lo<;>cases zfg st xs.length hi<;>rfl
  · rfl
 | _=>rfl
theorem yew (P:Program) (t:TypeId) (lo:Option Operand) (h' m':Operand) (i k:Nat) (hk:k=st.ver i):yi9 P st t lo (some h') (some m') (.ref i k)=onArr (st.h i) none fun _ sz xs=>if ((tElem P t).bind (tSize P))=some sz then
 (zfg st 0 lo).bind fun l=>(zfg st xs.length (some h')).bind fun h=>if l≤h∧h≤xs.length then (zfg st 0 (some m')).bind fun m=>if m=h then some (.osl i k l h true) else none else none else none:=by
 simp only[yi9,hk,if_true]
 cases st.h i with
 | arr e sz xs =>
  simp only[onArr]
  split
  · cases zfg st 0 (some m')<;>cases zfg st 0 lo<;>cases zfg st xs.length (some h')<;>rfl
  · rfl
 | _=>rfl
theorem q_fz_osl (id i k lo hi:Nat) (f:Bool):fz st id (.osl i k lo hi f)=fz0 st id (.osl i k lo hi f):=nrfl _
theorem ybb (id k lo hi:Nat) (f:Bool) (hk:k=st.ver id):fz0 st id (.osl id k lo hi f)=onArr (st.h id) (.osl id k lo hi f) fun _ sz xs=>if lo≤hi∧hi≤xs.length then .lst sz ((xs.drop lo).take (hi - lo)) else .osl id k lo hi f:=by
 subst hk;simp only[fz0,true_and,if_true];cases st.h id<;>rfl
theorem ydb (i k lo hi:Nat) (f:Bool) (F:Nat→Nat→Nat→List AV→Nat→Nat→Prop) (no:Prop) (hk:k=st.ver i):zt8 st (.osl i k lo hi f) F no=onArr (st.h i) False fun e sz xs=>(lo≤hi∧hi≤xs.length)∧F i e sz xs lo hi:=by
 subst hk;simp only[zt8,true_and];cases st.h i<;>rfl
theorem ydc (i k:Nat) (F:Nat→Nat→Nat→List AV→Nat→Nat→Prop) (no:Prop):zt8 st (.ref i k) F no=no:=nrfl _
theorem ych {P:Program} (t:TypeId) (i k lo hi:Nat) (f:Bool) (hk:k=st.ver i):lenAV P st t (.osl i k lo hi f)=onArr (st.h i) none fun _ _ xs=>if lo≤hi∧hi≤xs.length then (tElem P t).map fun _=>.v (.int .i64 ((hi - lo:Nat):Int)) else none:=by
 subst hk;simp only[lenAV,if_true];cases st.h i<;>rfl
theorem q_ia_osl {P:Program} (t:TypeId) (j k lo hi:Nat) (f:Bool) (kk:IntKind) (i:Int) (hk:k=st.ver j):zod P st t (.osl j k lo hi f) (.v (.int kk i))=onArr (st.h j) none fun _ sz xs=>if ((tElem P t).bind (tSize P))=some sz∧0≤i∧i < ((hi - lo:Nat):Int)∧hi≤xs.length then some (.rptr j k (lo+i.toNat) 0) else none:=by
 subst hk;simp only[zod,if_true];cases st.h j<;>rfl
theorem q_setIter_σ (i:Nat) (es:Array MapEntry) (clk:Nat) (done:List MapEntry):(st.setIter i es clk done).σ=st.σ:=nrfl _
theorem yes (i:Nat) (es:Array MapEntry) (clk:Nat) (done:List MapEntry) (j:Nat):(st.setIter i es clk done).ver j=if j=i then st.ver i+1 else st.ver j:=nrfl _
theorem yer (i:Nat) (es:Array MapEntry) (clk:Nat) (done:List MapEntry) (j:Nat):(st.setIter i es clk done).h j=if j=i then .iter es clk done else st.h j:=nrfl _
theorem yda (i k:Nat) (f:Array MapEntry→Nat→St→Prop) (hk:k=st.ver i):zt5 st (.ref i k) f=zt4 (st.h i) fun es clk=>f es clk (st.freeze i):=by
 subst hk;simp only[zt5,true_and];rfl
theorem w_mrange (d:Tmp) (t:TypeId) (x:Operand):vcOp G own K ⟨some d,.range t x,ty,po,af,gd⟩ st=((tMap G.P t).isSome=true∧zt5 st (st.ev x) fun es clk st=>mapOK es clk∧K ((st.setIter (G.ids d) es clk []).put (some d) (.rptr (G.ids d) (st.ver (G.ids d)+1) 0 0))):=nrfl _
theorem w_next (x:Operand):vcOp G own K ⟨dst,.next x false,ty,po,af,gd⟩ st=ztv st (st.ev x) fun id es clk done=>NextK K dst id es clk done st:=by
 show (false=false∧_)=_
 simp only[true_and]
theorem w_entry (x:Operand):vcOp G own K ⟨dst,.entry x,ty,po,af,gd⟩ st=ztv st (st.ev x) fun _ _ _ done=>bindP done.getLast? fun e=>K (st.put dst (.tup [.v e.key,.v e.val])):=nrfl _
theorem ya5 (sz:Nat) (xs:List AV):zmk (.full sz xs)=some (sz,xs):=nrfl _
theorem ya8 (x:Value):zmk (.v x)=none:=nrfl _
theorem ya7 (i k:Nat):zmk (.ref i k)=none:=nrfl _
theorem yqw:vcOps G own ops QS [] st=QS st:=nrfl _
theorem yqx (l:List Oper) (op:Op):vcOps G own ops QS (⟨dst,op,ty,po,af,none⟩::l) st=(dstOK G.n dst∧vcOp G own (vcOps G own ops QS l) ⟨dst,op,ty,po,af,none⟩ st):=nrfl _
theorem yqy (l:List Oper) (op:Op) (j:Nat) (want:Bool):vcOps G own ops QS (⟨dst,op,ty,po,af,some (j,want)⟩::l) st=(dstOK G.n dst∧bindP (zm7 ops j) fun t=>bindP (zm8 (st.σ t) want) fun b=>if b=true then vcOp G own (vcOps G own ops QS l) ⟨dst,op,ty,po,af,some (j,want)⟩ st else vcOps G own ops QS l (st.put dst (.v undef))):=by
 simp only[vcOps]
 cases zm7 ops j<;>simp only[zew,zex]
def zf2 (G:Ctx) (ops:Array Oper) (QS:St→Prop) (l:List Oper) (dst:Option Tmp) (st:St) (r:AV):Prop:=ypw G ops QS l (st.put dst r)
theorem c_next (l:List Oper) (r:AV):zf2 G ops QS l dst st r=ypw G ops QS l (st.put dst r):=nrfl _
theorem zfx:ypw G ops QS [] st=QS st:=nrfl _
theorem zfy (l:List Oper) (op:Op):ypw G ops QS (⟨dst,op,ty,po,af,none⟩::l) st=(dstOK G.n dst∧zf3 G ⟨dst,op,ty,po,af,none⟩ (zf2 G ops QS l dst st) st):=nrfl _
theorem zfz (l:List Oper) (op:Op) (j:Nat) (want:Bool):ypw G ops QS (⟨dst,op,ty,po,af,some (j,want)⟩::l) st=(dstOK G.n dst∧bindP (zm7 ops j) fun t=>bindP (zm8 (st.σ t) want) fun b=>if b=true then zf3 G ⟨dst,op,ty,po,af,some (j,want)⟩ (zf2 G ops QS l dst st) st else ypw G ops QS l (st.put dst (.v undef))):=by
 simp only[ypw]
 cases zm7 ops j<;>simp only[zew,zex]<;>rfl
def zdm (G:Ctx) (own X Y early:List Nat) (ops:Array Oper) (QS:St→Prop) (l:List Oper) (st:St):Prop:=vcAny G own X Y early ops QS l st
theorem a_next (X Y early:List Nat) (l:List Oper):zdm G own X Y early ops QS l st=vcAny G own X Y early ops QS l st:=nrfl _
theorem a_nil (X Y early:List Nat):vcAny G own X Y early ops QS [] st=QS st:=nrfl _
theorem za7 {X Y early:List Nat} (l:List Oper) (o:Oper) (hk:kindO own o=0):vcAny G own X Y early ops QS (o::l) st=(lateB X (if zor early o=true then [] else Y) st o=true∧ypw G ops (zdm G own X Y early ops QS l) [o] st):=by
 rw[vcAny,hk];rfl
theorem za8 {X Y early:List Nat} (l:List Oper) (o:Oper) (hk:kindO own o=0) (hl:lateB X (if zor early o=true then [] else Y) st o=true):vcAny G own X Y early ops QS (o::l) st=ypw G ops (zdm G own X Y early ops QS l) [o] st:=by
 rw[za7 l o hk,hl];simp
section
variable {X Y early:List Nat} (l:List Oper)
theorem a_move (x:Operand):vcAny G own X Y early ops QS (⟨dst,.move x,ty,po,af,gd⟩::l) st=ypw G ops (zdm G own X Y early ops QS l) [⟨dst,.move x,ty,po,af,gd⟩] st:=za8 _ _ rfl rfl
theorem a_assign (x:Operand):vcAny G own X Y early ops QS (⟨dst,.assign x,ty,po,af,gd⟩::l) st=ypw G ops (zdm G own X Y early ops QS l) [⟨dst,.assign x,ty,po,af,gd⟩] st:=za8 _ _ rfl rfl
theorem a_binOp (op:BinOp) (t u:TypeId) (x y:Operand):vcAny G own X Y early ops QS (⟨dst,.binOp op t x y u,ty,po,af,gd⟩::l) st=ypw G ops (zdm G own X Y early ops QS l) [⟨dst,.binOp op t x y u,ty,po,af,gd⟩] st:=za8 _ _ rfl rfl
theorem zba (x:Operand) (i:Nat):vcAny G own X Y early ops QS (⟨dst,.extract x i,ty,po,af,gd⟩::l) st=ypw G ops (zdm G own X Y early ops QS l) [⟨dst,.extract x i,ty,po,af,gd⟩] st:=za8 _ _ rfl rfl
theorem zbb (t:TypeId) (x:Operand) (n:Nat):vcAny G own X Y early ops QS (⟨dst,.fieldAddr t x n,ty,po,af,gd⟩::l) st=(dj X (st.ev x)=true∧ypw G ops (zdm G own X Y early ops QS l) [⟨dst,.fieldAddr t x n,ty,po,af,gd⟩] st):=za7 _ _ rfl
theorem zbc (t:TypeId) (x i:Operand):vcAny G own X Y early ops QS (⟨dst,.indexAddr t x i,ty,po,af,gd⟩::l) st=(dj X (st.ev x)=true∧ypw G ops (zdm G own X Y early ops QS l) [⟨dst,.indexAddr t x i,ty,po,af,gd⟩] st):=za7 _ _ rfl
theorem a_load (d:Tmp) (t:TypeId) (x:Operand):vcAny G own X Y early ops QS (⟨some d,.load t x,ty,po,af,gd⟩::l) st=(dj (X++(if early.contains d=true then [] else Y)) (st.ev x)=true∧ypw G ops (zdm G own X Y early ops QS l) [⟨some d,.load t x,ty,po,af,gd⟩] st):=za7 _ _ rfl
theorem za6 (d:Tmp) (t:TypeId) (n:Nat) (ps:Array (Nat×Operand)) (hd:own.contains d=false):vcAny G own X Y early ops QS (⟨some d,.buildSlice t n ps,ty,po,af,gd⟩::l) st=((ps.toList.all fun p=>(st.ev p.2).cells.all (dj X))=true∧ypw G ops (zdm G own X Y early ops QS l) [⟨some d,.buildSlice t n ps,ty,po,af,gd⟩] st):=za7 _ _ (by simp only[kindO,hd];rfl)
def zv8:AV→Bool
 | .fn _ a b=>a.all zv7&&b.all zv7
 | _=>false
theorem a_call (d:Tmp) (f:Operand) (xs:Array Operand) (ts:Array TypeId) (hd:own.contains d=false):vcAny G own X Y early ops QS (⟨some d,.call { callee:=.value f,args:=xs,argTypes:=ts },ty,po,af,gd⟩::l) st=((zv8 (st.ev f)&&xs.toList.all fun x=>zv7 (st.ev x))=true∧ypw G ops (zdm G own X Y early ops QS l) [⟨some d,.call { callee:=.value f,args:=xs,argTypes:=ts },ty,po,af,gd⟩] st):=by
 rw[za7 _ _ (by simp only[kindO];rw[hd];rfl)]
 have:lateB X (if zor early ⟨some d,.call { callee:=.value f,args:=xs,argTypes:=ts },ty,po,af,gd⟩=true then [] else Y) st ⟨some d,.call { callee:=.value f,args:=xs,argTypes:=ts },ty,po,af,gd⟩=(zv8 (st.ev f)&&xs.toList.all fun x=>zv7 (st.ev x)):=by
  simp only[lateB,zv8]
  cases st.ev f<;>rfl
 rw[this]
theorem a_callF (d:Tmp) (f:Operand) (xs:Array Operand) (ts:Array TypeId) (hd:own.contains d=true):vcAny G own X Y early ops QS (⟨some d,.call { callee:=.value f,args:=xs,argTypes:=ts },ty,po,af,none⟩::l) st=(d < G.n∧onFn (st.ev f) fun g first captured=>OwnCall G X g (first++(xs.toList.map st.ev++captured)) d (zdm G own X Y early ops QS l) st):=by
 rw[vcAny,show kindO own ⟨some d,.call { callee:=.value f,args:=xs,argTypes:=ts },ty,po,af,none⟩=2 by simp only[kindO];rw[hd];rfl];simp only[true_and];rfl
theorem a_append (d:Tmp) (p q:Operand) (t t':TypeId):vcAny G own X Y early ops QS (⟨some d,.call { callee:=.builtin .append,args:=#[p,q],argTypes:=#[t,t'] },ty,po,af,none⟩::l) st=(d < G.n∧(t'=t∧bindP (tElem G.P t) fun e=>bindP (tSize G.P e) fun sz=>bindP (ylk G.P e) fun bytes=>((tZero G.P e).map (·.cells.size)=some sz∧0 < sz) ∧
 ztr (zmk (st.ev p)) (fun sz' xs=>sz'=sz∧bindP (srcAV st sz (st.ev q)) fun ys=>(okAll st ys∧(xs.length+ys.length) * bytes≤140737488355328∧xs.length+ys.length≤140737488355328)∧ys≠[]∧G.ids d∈X ∧
  zdm G own X Y early ops QS l ((st.setArr (G.ids d) e sz (xs++ys)).put (some d) (.ref (G.ids d) (st.ver (G.ids d)+1))))
 (oslOf st (st.ev p)=none∧bindP (zib st (G.ids d) e sz (st.ev p)) fun dx=>bindP (srcAV st sz (st.ev q)) fun ys=>(okAll st ys∧(dx.2.length+ys.length) * bytes≤140737488355328∧dx.2.length+ys.length≤140737488355328)∧dx.1∈X ∧
  zdm G own X Y early ops QS l ((st.setArr dx.1 e sz (dx.2++ys)).put (some d) (.ref dx.1 (st.ver dx.1+1)))))):=by
 rw[vcAny,show kindO own ⟨some d,.call { callee:=.builtin .append,args:=#[p,q],argTypes:=#[t,t'] },ty,po,af,none⟩=2 from rfl];simp only[true_and];rfl
theorem a_slice (t:TypeId) (x:Operand) (lo hi mx:Option Operand):vcAny G own X Y early ops QS (⟨dst,.slice t x lo hi mx,ty,po,af,gd⟩::l) st=(zv6 (st.ev x)=true∧ypw G ops (zdm G own X Y early ops QS l) [⟨dst,.slice t x lo hi mx,ty,po,af,gd⟩] st):=za7 _ _ rfl
theorem za5 (d:Tmp) (t:TypeId) (n:Nat) (ps:Array (Nat×Operand)) (hd:own.contains d=true):vcAny G own X Y early ops QS (⟨some d,.buildSlice t n ps,ty,po,af,none⟩::l) st=(d < G.n∧bindP (litAV G.P st t n ps) fun x=>G.ids d∈X ∧
 zdm G own X Y early ops QS l ((st.setArr (G.ids d) x.1 x.2.1 x.2.2).put (some d) (.ref (G.ids d) (st.ver (G.ids d)+1)))):=by
 have hm:d∈own:=by simpa using hd
 rw[vcAny,show kindO own ⟨some d,.buildSlice t n ps,ty,po,af,none⟩=2 from by unfold kindO;simp only[hd,if_true]];simp only[true_and,zvq,hm];rfl
theorem a_alloc (d:Tmp) (t:TypeId):vcAny G own X Y early ops QS (⟨some d,.alloc t,ty,po,af,none⟩::l) st=(d < G.n∧G.ids d∈X∧bindP (tZero G.P t) fun z=>(yps z).all yrx=true∧zdm G own X Y early ops QS l (zcj G d z st)):=by
 rw[vcAny,show kindO own ⟨some d,.alloc t,ty,po,af,none⟩=1 from rfl];simp only[true_and];rfl
theorem zbd (t:TypeId) (m k:Operand):vcAny G own X Y early ops QS (⟨dst,.mapEntry t m k,ty,po,af,none⟩::l) st=(dstOK G.n dst∧bindP (tMap G.P t) fun y=>tInt G.P y.1=some .i64∧zt1 st (st.ev m) (fun id mm=>ztz (st.ev k) fun n=>bindP (tZero G.P y.2) fun z=>id∈X∧zdm G own X Y early ops QS l ((st.setH id (.amap (mm.put n ((mm.f n).getD (.v z))))).put dst (.tup [(mm.f n).getD (.v z),.v (.int .i64 (mm.stamp n))]))) False):=by
 rw[vcAny,show kindO own ⟨dst,.mapEntry t m k,ty,po,af,none⟩=2 from rfl];simp only[true_and];rfl
theorem za9 (t:TypeId) (m s x:Operand):vcAny G own X Y early ops QS (⟨dst,.entryStore t m s x,ty,po,af,none⟩::l) st=(dstOK G.n dst∧zt1 st (st.ev m) (fun id mm=>ztz (st.ev s) fun b=>∃ n,(mm.f n).isSome=true∧(mm.b n:Int)=b∧id∈X∧zdm G own X Y early ops QS l ((st.setH id (.amap (mm.put n (st.ev x)))).put dst .junk)) False):=by
 rw[vcAny,show kindO own ⟨dst,.entryStore t m s x,ty,po,af,none⟩=2 from rfl];simp only[true_and];rfl
theorem zbe (t:TypeId) (m k x:Operand):vcAny G own X Y early ops QS (⟨dst,.mapUpdate t m k x,ty,po,af,none⟩::l) st=(dstOK G.n dst∧bindP (tMap G.P t) fun y=>keyQ (st.ev k)=none∧tInt G.P y.1=some .i64∧zt1 st (st.ev m) (fun id mm=>ztz (st.ev k) fun n=>id∈X∧zdm G own X Y early ops QS l ((st.setH id (.amap (mm.put n (st.ev x)))).put dst .junk)) False):=by
 rw[vcAny,show kindO own ⟨dst,.mapUpdate t m k x,ty,po,af,none⟩=2 from rfl];simp only[true_and];rfl
theorem a_store (t:TypeId) (p x:Operand):vcAny G own X Y early ops QS (⟨dst,.store t p x,ty,po,af,none⟩::l) st=(dstOK G.n dst∧bindP (ykv G.P st t (st.ev p) (st.ev x)) fun st'=>inY X Y (st.ev p)=true∧zdm G own X Y early ops QS l (st'.put dst .junk)):=by
 rw[vcAny,show kindO own ⟨dst,.store t p x,ty,po,af,none⟩=2 from rfl];simp only[true_and];rfl
end
theorem zz4 (d:Nat) (z:Value):zcj G d z st=(st.setBox (G.ids d) (yps z)).put (some d) (.rptr (G.ids d) (st.ver (G.ids d)+1) 0 0):=nrfl _
theorem q_dj_ref (X:List Nat) (i k:Nat):dj X (.ref i k)=!(X.contains i):=nrfl _
theorem yar (X:List Nat) (i k n j:Nat):dj X (.rptr i k n j)=!(X.contains i):=nrfl _
theorem q_dj_v (X:List Nat) (x:Value):dj X (.v x)=true:=nrfl _
theorem q_dj_lst (X:List Nat) (sz:Nat) (xs:List AV):dj X (.lst sz xs)=true:=nrfl _
theorem yaq (X:List Nat) (cs:List AV) (j:Nat):dj X (.eptr cs j)=true:=nrfl _
theorem q_zeroOK (x:Value):yrx (.v x)=x.oneCell':=nrfl _
theorem q_inY (X Y:List Nat) (i k n j:Nat):inY X Y (.rptr i k n j)=(Y.contains i||X.contains i):=nrfl _
theorem yd6 (f:Fn) (a b:List AV):zv8 (.fn f a b)=(a.all zv7&&b.all zv7):=nrfl _
theorem yd9 (x:Value):zv7 (.v x)=true:=nrfl _
theorem yd8 (sz:Nat) (xs:List AV):zv7 (.lst sz xs)=true:=nrfl _
theorem yd7 (cs:List AV):zv7 (.agg cs)=cs.all zv6:=nrfl _
theorem yd5 (x:Value):zv6 (.v x)=true:=nrfl _
theorem yd4 (sz:Nat) (xs:List AV):zv6 (.lst sz xs)=true:=nrfl _
theorem w_skip:ypy G own .skip Q st=Q .normal st:=nrfl _
theorem w_label (l:Nat):ypy G own (.label l) Q st=Q .normal st:=nrfl _
theorem w_ret:ypy G own .ret Q st=Q .ret st:=nrfl _
theorem w_exit (id:Nat):ypy G own (.exit id) Q st=Q (.exit id) st:=nrfl _
theorem w_region (id:Nat):ypy G own (.region id ops false) Q st=if (1000000+id)∈own then AWp G (.region id ops false) Q st else vcOps G own ops (Q .normal) ops.toList st:=nrfl _
theorem w_draws (id:Nat):ypy G own (.region id ops true) Q st=AWp G (.region id ops true) Q st:=nrfl _
theorem w_seq (a b:Code):ypy G own (.seq a b) Q st=ypy G own a (thenA (ypy G own b Q) Q) st:=nrfl _
theorem w_cond (c:Operand) (a b:Code):ypy G own (.cond c a b) Q st=ztn (st.ev c) fun t=>if t=true then ypy G own a Q st else ypy G own b Q st:=nrfl _
theorem w_block (id:Nat) (c:Code):ypy G own (.block id c) Q st=ypy G own c (zn9 id Q) st:=nrfl _
theorem w_loop (c:Code):ypy G own (.loop c) Q st=AWp G (.loop c) Q st:=nrfl _
theorem yq3:thenA K Q .normal st=K st:=nrfl _
theorem yq4 (ch:List PanicEntry):thenA K Q (.panic ch) st=Q (.panic ch) st:=nrfl _
theorem yql (id:Nat) (ch:List PanicEntry):zn9 id Q (.panic ch) st=Q (.panic ch) st:=nrfl _
theorem yq5:thenA K Q .ret st=Q .ret st:=nrfl _
theorem yq2 (id:Nat):thenA K Q (.exit id) st=Q (.exit id) st:=nrfl _
theorem yqk (id:Nat):zn9 id Q .normal st=Q .normal st:=nrfl _
theorem w_in_ret (id:Nat):zn9 id Q .ret st=Q .ret st:=nrfl _
theorem yqj (id id':Nat):zn9 id Q (.exit id') st=if id'=id then Q .normal st else Q (.exit id') st:=nrfl _
theorem w_range (g:Operand) (ps:Array Tmp) (x c:Code):ypy G own (.rangeFunc g ps x c) Q st=AWp G (.rangeFunc g ps x c) Q st:=nrfl _
theorem q_mem_σ (s:St):(st.mem s).σ=st.σ:=nrfl _
theorem ycp (s:St):(st.mem s).ver=s.ver:=nrfl _
theorem q_mem_h (s:St):(st.mem s).h=s.h:=nrfl _
theorem q_fill1 (σ:Nat→AV) (t:Tmp) (v:AV) (j:Nat):zjz σ [t] [v] j=if j=t then v else σ j:=nrfl _
theorem q_upd {α:Type} (f:Nat→α) (i:Nat) (x:α) (j:Nat):upd f i x j=if j=i then x else f j:=nrfl _
theorem yqz (l R V:Nat) (r:Loop) (body:Code) (s:St):PostAssign G l R V r body Q .normal s=((s.ver R=V∧s.h R=recB r .ready none)∧∀ e0,AWp ⟨G.P,G.w0,G.S0,G.n,some l,G.ids,e0⟩ body Q (s.setH R (recB r .busy none))):=nrfl _
theorem yq0 (R V:Nat) (r:Loop) (s:St):zao G st R V r Q .normal s=(s.ver R=V∧((s.h R=recB r .ready none∧Q .normal (st.mem (s.setH R .none)))∨(∃ c,s.h R=recB r .done (some c)∧AWp G c Q (st.mem (s.setH R .none))))):=nrfl _
theorem w_pi_ret (R V:Nat) (r:Loop) (s:St):zao G st R V r Q .ret s=(s.ver R=V∧((s.h R=recB r .ready none∧Q .normal (st.mem (s.setH R .none)))∨(∃ c,s.h R=recB r .done (some c)∧AWp G c Q (st.mem (s.setH R .none))))):=nrfl _
end
end Go.Abs
