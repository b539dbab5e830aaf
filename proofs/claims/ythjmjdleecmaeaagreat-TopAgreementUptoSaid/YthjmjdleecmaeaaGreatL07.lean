/- Several texts of the proof in one: Fy. No condition. -/
import Derived.Test.YthjmjdleecmaeaaGreatL06
set_option linter.unusedSimpArgs false
set_option linter.unusedVariables false
set_option maxHeartbeats 4000000
set_option maxRecDepth 8000
namespace Go.Abs
open Go Go.RowKit
def mput (es:Array MapEntry) (clk:Nat) (n:Int) (v:Value):Array MapEntry×Nat :=
 match findI n es.toList 0 with
 | some x=>(es.modify x.1 fun e=>{ e with key:=.int .i64 n,val:=v },clk)
 | none=>(es.push { key:=.int .i64 n,val:=v,born:=clk },clk+1)
theorem zpb {n:Int} {e:MapEntry} (h:keyIs n e=true):e.key=.int .i64 n:=by
 unfold keyIs at h
 split at h
 · rename_i a ha
   rw[ha]
   have:n=a:=by simpa using h
   rw[this]
 · cases h
theorem zkk (n:Int):∀ (l:List MapEntry) (i:Nat) (x:Nat×Value),findI n l i=some x→∃ j e,x=(i+j,e.val)∧l[j]? = some e∧keyIs n e=true∧∀ k e',k < j→l[k]? = some e'→keyIs n e'=false
 | [],i,x,h=>by cases h
 | e::l,i,x,h=>by
  unfold findI at h
  split at h
  · rename_i hk
    cases h
    exact⟨0,e,rfl,rfl,hk,fun k e' hk=>by omega⟩
  · rename_i hk
    obtain⟨j,e',rfl,h1,h2,h3⟩:=zkk n l (i+1) x h
    refine⟨j+1,e',by rw[Nat.add_assoc,Nat.add_comm 1 j],by simpa using h1,h2,fun k e2 hk2 he2=>?_⟩
    cases k with
    | zero=>simp at he2;subst he2;simpa using hk
    | succ k=>exact h3 k e2 (by omega) (by simpa using he2)
theorem zkj (n:Int):∀ (l:List MapEntry) (i:Nat),findI n l i=none↔∀ e∈l,keyIs n e=false
 | [],i=>by simp[findI]
 | e::l,i=>by
  unfold findI
  cases hk:keyIs n e with
  | true=>simp[hk]
  | false=>simp[hk,zkj n l (i+1)]
def qput (es:Array MapEntry) (clk:Nat) (k:KeyQ) (v:Value):Array MapEntry×Nat :=
 match findQ k es.toList 0 with
 | some x=>(es.modify x.1 fun e=>{ e with key:=k.val,val:=v },clk)
 | none=>(es.push { key:=k.val,val:=v,born:=clk },clk+1)
theorem zfr {a b:ByteArray} (h:(a.toList==b.toList)=true):a=b:=by
 rw[← beq_toListBytes]at h
 exact (MapKept.bytes_beq a b).1 h
theorem is_key {k:KeyQ} {v:Value} (h:k.is v=true):v=k.val:=by
 cases k with
 | txt s =>
  unfold KeyQ.is at h
  split at h
  · rename_i s' x hs;cases hs;rw[zfr h];rfl
  · rename_i hs;cases hs
  · cases h
 | two a b =>
  unfold KeyQ.is at h
  split at h
  · rename_i hs;cases hs
  · rename_i a' b' us hs
    cases hs
    split at h
    · rename_i x y hxy
      rw[Bool.and_eq_true]at h
      rw[zfr h.1,zfr h.2]
      unfold KeyQ.val
      congr 1
      rw[← Array.toList_inj];exact hxy
    · cases h
  · cases h
theorem zkn (n:KeyQ):∀ (l:List MapEntry) (i:Nat) (x:Nat×Value),findQ n l i=some x→∃ j e,x=(i+j,e.val)∧l[j]? = some e∧n.is e.key=true∧∀ k e',k < j→l[k]? = some e'→n.is e'.key=false
 | [],i,x,h=>by cases h
 | e::l,i,x,h=>by
  unfold findQ at h
  split at h
  · rename_i hk
    cases h
    exact⟨0,e,rfl,rfl,hk,fun k e' hk=>by omega⟩
  · rename_i hk
    obtain⟨j,e',rfl,h1,h2,h3⟩:=zkn n l (i+1) x h
    refine⟨j+1,e',by rw[Nat.add_assoc,Nat.add_comm 1 j],by simpa using h1,h2,fun k e2 hk2 he2=>?_⟩
    cases k with
    | zero=>simp at he2;subst he2;simpa using hk
    | succ k=>exact h3 k e2 (by omega) (by simpa using he2)
theorem zeu (a:ByteArray):(a==a)=true:=(MapKept.bytes_beq a a).2 rfl
theorem yhu (k:KeyQ):Instr.sameBits 10000 k.val k.val=true:=by
 rw[show (10000:Nat)=9999+1 from rfl]
 cases k with
 | txt s=>simp[KeyQ.val,Instr.sameBits,zeu]
 | two a b=>simp[KeyQ.val,Instr.sameBits,zeu]
theorem zki (n:Int):∀ (l:List MapEntry) (i:Nat),(findI n l i).map (·.2)=(l.find? (keyIs n)).map (·.val)
 | [],i=>rfl
 | e::l,i=>by
  unfold findI
  cases hk:keyIs n e with
  | true=>simp[hk,List.find?_cons]
  | false=>simp only[Bool.false_eq_true,if_false,List.find?_cons,hk];exact zki n l (i+1)
theorem zrj (es:Array MapEntry) (n:Int):mget es n=(es.toList.find? (keyIs n)).map (·.val):=zki n _ _
theorem find_app (n:Int) (l:List MapEntry) (e:MapEntry):(l++[e]).find? (keyIs n)=(l.find? (keyIs n)).or (if keyIs n e=true then some e else none):=by
 rw[List.find?_append];congr 1
 cases h:keyIs n e<;>simp[h,List.find?_cons]
theorem zpc (n m:Int) (v:Value) (b:Nat):keyIs n { key:=.int .i64 m,val:=v,born:=b }=(n==m):=rfl
theorem zkt (n m:Int) (v:Value):∀ (l:List MapEntry) (j:Nat) (e:MapEntry),l[j]? = some e→keyIs m e=true→(∀ k e',k < j→l[k]? = some e'→keyIs m e'=false) →
 ((l.set j { key:=.int .i64 m,val:=v,born:=e.born }).find? (keyIs n)).map (·.val)=if m=n then some v else (l.find? (keyIs n)).map (·.val)
 | [],j,e,h,_,_=>by simp at h
 | x::l,0,e,h,hk,_=>by
  simp at h;subst h
  have hke:keyIs n x=(n==m):=by unfold keyIs;rw[zpb hk]
  simp only[List.set_cons_zero,List.find?_cons,zpc,hke]
  by_cases g:m=n
  · subst g;simp
  · have:(n==m)=false:=by simpa using Ne.symm g
    rw[this,if_neg g]
 | x::l,j+1,e,h,hk,hno=>by
  have hx:keyIs m x=false:=hno 0 x (by omega) rfl
  have ih:=zkt n m v l j e (by simpa using h) hk (fun k e' hk' he'=>hno (k+1) e' (by omega) (by simpa using he'))
  simp only[List.set_cons_succ,List.find?_cons]
  cases hn:keyIs n x with
  | true =>
   by_cases g:m=n
   · subst g;rw[hx]at hn;cases hn
   · rw[if_neg g]
  | false=>exact ih
theorem ycs (es:Array MapEntry) (clk:Nat) (m:Int) (v:Value) (n:Int):mget (mput es clk m v).1 n=if m=n then some v else mget es n:=by
 rw[zrj,zrj]
 unfold mput
 cases hf:findI m es.toList 0 with
 | some x =>
  obtain⟨j,e,rfl,h1,h2,h3⟩:=zkk m _ _ _ hf
  have hj:j < es.size:=by simpa using (List.getElem?_eq_some_iff.1 h1).1
  have he:es[j]=e:=by
   have:=(List.getElem?_eq_some_iff.1 h1).2
   simpa using this
  have:(es.modify (0+j) fun e=>{ e with key:=.int .i64 m,val:=v }).toList=es.toList.set j { key:=.int .i64 m,val:=v,born:=e.born }:=by
   rw[Nat.zero_add,Array.toList_modify]
   apply List.ext_getElem?
   intro k
   rw[List.getElem?_modify,List.getElem?_set]
   by_cases g:j=k
   · subst g;simp[hj,he]
   · simp[g]
  simp only[this]
  exact zkt n m v _ j e h1 h2 h3
 | none =>
  have hno:=(zkj m _ 0).1 hf
  simp only[Array.toList_push,find_app,zpc]
  by_cases g:m=n
  · subst g
    have:es.toList.find? (keyIs m)=none:=List.find?_eq_none.2 fun e he=>by rw[hno e he];simp
    simp[this]
  · have:(n==m)=false:=by simpa using Ne.symm g
    rw[if_neg g]
    simp[this]
theorem yct (es:Array MapEntry) (clk:Nat) (m:Int) (v:Value) (h:intM es=true):intM (mput es clk m v).1=true:=by
 unfold mput
 unfold intM at h ⊢
 rw[List.all_eq_true]at h
 cases hf:findI m es.toList 0 with
 | some x =>
  obtain⟨j,e,rfl,h1,h2,h3⟩:=zkk m _ _ _ hf
  rw[List.all_eq_true]
  intro y hy
  obtain⟨k,hk⟩:=List.mem_iff_getElem?.1 hy
  rw[Array.toList_modify,List.getElem?_modify]at hk
  cases hg:es.toList[k]? with
  | none=>simp[hg]at hk
  | some e' =>
   rw[hg]at hk
   split at hk<;>cases hk
   · rfl
   · exact h _ (List.mem_of_getElem? hg)
 | none =>
  rw[List.all_eq_true]
  simp only[Array.toList_push,List.mem_append,List.mem_singleton]
  rintro y (hy|rfl)
  · exact h y hy
  · rfl
def upd2 (m:Int→Option AV) (n:Int) (x:AV):Int→Option AV:=fun k=>if k=n then some x else m k
def AMap.put (m:AMap) (n:Int) (x:AV):AMap:=⟨upd2 m.f n x,if (m.f n).isSome=true then m.b else fun k=>if k=n then m.c else m.b k,if (m.f n).isSome=true then m.c else m.c+1⟩
def AMap.stamp (m:AMap) (n:Int):Nat:=if (m.f n).isSome=true then m.b n else m.c
def AMap.new (clk:Nat):AMap:=⟨fun _=>none,fun _=>0,clk⟩
theorem zr0 {es:Array MapEntry} {clk:Nat} {n:Int} {j:Nat} {e:MapEntry} (v:Value) (h:findI n es.toList 0=some (j,e.val)):mput es clk n v=(es.modify j fun e=>{ e with key:=.int .i64 n,val:=v },clk):=by
 unfold mput;rw[h]
theorem zr1 {es:Array MapEntry} {clk:Nat} {n:Int} (v:Value) (h:findI n es.toList 0=none):mput es clk n v=(es.push { key:=.int .i64 n,val:=v,born:=clk },clk+1):=by
 unfold mput;rw[h]
theorem zpe {n:Int} {e:MapEntry} (h:e.key=.int .i64 n):keyIs n e=true:=by
 unfold keyIs;rw[h];simp
theorem BM.put {m:AMap} {es:Array MapEntry} {clk:Nat} (h:BM m es clk) (hi:intM es=true) (hm:∀ n,(m.f n).isSome=(mget es n).isSome) (n:Int) (x:AV) (v:Value):BM (m.put n x) (mput es clk n v).1 (mput es clk n v).2:=by
 obtain⟨h1,h2,h3⟩:=h
 cases hf:findI n es.toList 0 with
 | some y =>
  obtain⟨j,e,rfl,g1,g2,g3⟩:=zkk n _ _ _ hf
  rw[Nat.zero_add]at hf
  have hs:(m.f n).isSome=true:=by rw[hm];unfold mget;rw[hf];rfl
  have g1':es[j]? = some e:=by rw[← Array.getElem?_toList];exact g1
  rw[zr0 v hf]
  unfold AMap.put
  simp only[hs,if_true]
  have key:∀ (i:Nat) e',(es.modify j fun e=>{ e with key:=.int .i64 n,val:=v })[i]? = some e'→∃ e0,es[i]? = some e0∧e'.born=e0.born∧(e'.key=e0.key∨e0.key=e'.key):=by
   intro i e' he'
   rw[Array.getElem?_modify]at he'
   by_cases hij:j=i
   · subst hij
     rw[if_pos rfl,g1']at he'
     simp only[Option.map_some,Option.some.injEq]at he'
     subst he'
     exact⟨e,g1',rfl,.inr (zpb g2)⟩
   · rw[if_neg hij]at he'
     exact⟨e',he',rfl,.inl rfl⟩
  refine⟨h1,fun i e' k he' hk=>?_,fun i i' e1 e2 he1 he2 hb=>?_⟩
  · obtain⟨e0,g4,g5,g6⟩:=key i e' he'
    rw[g5]
    refine h2 i e0 k g4 ?_
    rcases g6 with g6|g6
    · rw[← g6];exact hk
    · rw[g6];exact hk
  · obtain⟨a,g4,g5,_⟩:=key i e1 he1
    obtain⟨b,g4',g5',_⟩:=key i' e2 he2
    exact h3 i i' a b g4 g4' (by rw[← g5,← g5',hb])
 | none =>
  have hs:(m.f n).isSome=false:=by rw[hm];unfold mget;rw[hf];rfl
  rw[zr1 v hf]
  unfold AMap.put
  simp only[hs,Bool.false_eq_true,if_false]
  have hno:∀ (i:Nat) e,es[i]? = some e→e.key≠.int .i64 n:=fun i e he hk=>by
   have h5:=(zkj n es.toList 0).1 hf e (by rw[Array.mem_toList_iff];exact Array.mem_of_getElem? he)
   rw[zpe hk]at h5;cases h5
  have key:∀ (i:Nat) e',(es.push { key:=.int .i64 n,val:=v,born:=clk })[i]? = some e'→(es[i]? = some e')∨(i=es.size∧e'.born=clk∧e'.key=.int .i64 n):=by
   intro i e' he'
   rw[Array.getElem?_push]at he'
   split at he'
   · rename_i hi;cases he';exact .inr ⟨hi,rfl,rfl⟩
   · exact .inl he'
  refine⟨by rw[h1],fun i e' k he' hk=>?_,fun i i' e1 e2 he1 he2 hb=>?_⟩
  · rcases key i e' he' with g|⟨_,g4,g5⟩
    · obtain⟨g4,g5⟩:=h2 i e' k g hk
      have hkn:k≠n:=fun h=>hno i e' g (by rw[hk,h])
      simp only[if_neg hkn]
      exact⟨g4,by omega⟩
    · rw[g5]at hk
      simp only[Value.int.injEq,true_and]at hk
      subst hk
      simp only[if_true]
      exact⟨by rw[g4,h1],by omega⟩
  · have bl:∀ (i:Nat) e,es[i]? = some e→e.born < clk:=fun i e he=>by
     have h5:zo8 e=true:=List.all_eq_true.1 hi e (by rw[Array.mem_toList_iff];exact Array.mem_of_getElem? he)
     unfold zo8 at h5
     split at h5
     · rename_i k hk;exact (h2 i e k he hk).2
     · cases h5
    rcases key i e1 he1 with g|⟨g0,g4,g5⟩<;>rcases key i' e2 he2 with g'|⟨g0',g4',g5'⟩
    · exact h3 i i' e1 e2 g g' hb
    · exact absurd hb (by rw[g4'];have:=bl i e1 g;omega)
    · exact absurd hb (by rw[g4];have:=bl i' e2 g';omega)
    · rw[g0,g0']
section
variable {G:Ctx} {st:St} {E:Env} {a:Act}
theorem yhh {P:Program} {t kt et:TypeId} (hm:P.underlying t=some (.map kt et)) (hk:P.underlying kt=some (.int .i64)) {w:World} {r clk:Nat} {es:Array MapEntry} (hb:w.heap[r]? = some (.map es clk)) (hi:intM es=true) (n:Int) (v:Value) :
 (Instr.mapUpdate t (.map (some r)) (.int .i64 n) v).run P w=.ok () (w.putObj r (.map (mput es clk n v).1 (mput es clk n v).2)):=by
 unfold mput
 cases hf:findI n es.toList 0 with
 | none=>simp[Instr.mapUpdate,run_underlying hm,MapKept.run_getObj_map hb,yg6 hk,yhc hk hi,hf,MapKept.run_setObj_map _ hb,World.putObj]
 | some x =>
  obtain⟨j,e,rfl,h1,h2,_⟩:=zkk n _ _ _ hf
  have he:(((es[0+j]?).map (·.key)).getD (.int .i64 n))=.int .i64 n:=by
   have:es[0+j]? = some e:=by rw[Nat.zero_add,← Array.getElem?_toList];exact h1
   rw[this];exact zpb h2
  simp only[Nat.zero_add]at he
  simp[Instr.mapUpdate,run_underlying hm,MapKept.run_getObj_map hb,yg6 hk,yhc hk hi,hf,he,MapKept.run_keyThatStays (d:=.int .i64) (k:=.int .i64 n) (by trivial),MapKept.run_setObj_map _ hb,World.putObj]
def yka (es:Array MapEntry) (clk:Nat) (n:Int):Nat:=match findI n es.toList 0 with
 | some x=>((es[x.1]?).map (·.born)).getD 0
 | none=>clk
theorem zrv {es:Array MapEntry} {n:Int} {j:Nat} {e:MapEntry} (h:es[j]? = some e) (hk:e.key=.int .i64 n):(es.modify j fun e=>{ e with key:=.int .i64 n })=es.modify j fun e'=>{ e' with key:=.int .i64 n,val:=e.val }:=by
 apply Array.ext'
 apply List.ext_getElem?
 intro i
 rw[Array.getElem?_toList,Array.getElem?_toList,Array.getElem?_modify,Array.getElem?_modify]
 by_cases hij:j=i
 · subst hij
   rw[if_pos rfl,if_pos rfl,h];rfl
 · rw[if_neg hij,if_neg hij]
theorem yhf {P:Program} {t kt et:TypeId} (hm:P.underlying t=some (.map kt et)) (hk:P.underlying kt=some (.int .i64)) {w:World} {r clk:Nat} {es:Array MapEntry} (hb:w.heap[r]? = some (.map es clk)) (hi:intM es=true) (n:Int) {z:Value} (hz:∀ w,(zeroValue et).run P w=.ok z w) :
 (Instr.mapEntry t (.map (some r)) (.int .i64 n)).run P w=.ok (.tuple #[(mget es n).getD z,.int .i64 (yka es clk n)]) (w.putObj r (.map (mput es clk n ((mget es n).getD z)).1 (mput es clk n ((mget es n).getD z)).2)):=by
 unfold yka mget
 cases hf:findI n es.toList 0 with
 | none =>
  rw[zr1 _ hf]
  simp[Instr.mapEntry,run_underlying hm,MapKept.run_getObj_map hb,yg6 hk,yhc hk hi,hf,hz,MapKept.run_setObj_map _ hb,World.putObj,goInt]
 | some x =>
  obtain⟨j,e,rfl,h1,h2,_⟩:=zkk n _ _ _ hf
  have g1:es[0+j]? = some e:=by rw[Nat.zero_add,← Array.getElem?_toList];exact h1
  have he:(((es[0+j]?).map (·.key)).getD (.int .i64 n))=.int .i64 n:=by rw[g1];exact zpb h2
  simp only[Nat.zero_add]at he g1 hf
  rw[zr0 _ hf]
  have hms:=zrv g1 (zpb h2)
  simp only[Option.map_some,Option.getD_some]
  rw[← hms]
  simp[Instr.mapEntry,run_underlying hm,MapKept.run_getObj_map hb,yg6 hk,yhc hk hi,hf,he,MapKept.run_keyThatStays (d:=.int .i64) (k:=.int .i64 n) (by trivial),MapKept.run_setObj_map _ hb,World.putObj,goInt,g1,zpb h2]
theorem yg9 {P:Program} {t:TypeId} {w:World} {r clk:Nat} {es:Array MapEntry} (hb:w.heap[r]? = some (.map es clk)) {m:AMap} (hB:BM m es clk) {n:Int} (hs:(mget es n).isSome=true) (v:Value) :
 (Instr.entryStore t (.map (some r)) (.int .i64 (m.b n:Int)) v).run P w=.ok () (w.putObj r (.map (mput es clk n v).1 (mput es clk n v).2)):=by
 unfold mget at hs
 cases hf:findI n es.toList 0 with
 | none=>rw[hf]at hs;cases hs
 | some x =>
  obtain⟨j,e,rfl,h1,h2,_⟩:=zkk n _ _ _ hf
  rw[Nat.zero_add]at hf
  have g1:es[j]? = some e:=by rw[← Array.getElem?_toList];exact h1
  obtain⟨hb1,_⟩:=hB.2.1 j e n g1 (zpb h2)
  have hfi:es.findIdx? (fun e=>(e.born:Int)==(m.b n:Int))=some j:=by
   rw[Array.findIdx?_eq_some_iff_getElem]
   obtain⟨hj,hje⟩:=Array.getElem?_eq_some_iff.1 g1
   refine⟨hj,by rw[hje,hb1];simp,fun k hk=>?_⟩
   have hkl:k < es.size:=by omega
   intro hkb
   have h6:=hB.2.2 k j es[k] e (Array.getElem?_eq_getElem hkl) g1 (by rw[hb1];have:=eq_of_beq hkb;omega)
   omega
  rw[zr0 _ hf]
  have hmod:(es.modify j fun e=>{ e with val:=v })=es.modify j fun e=>{ e with key:=.int .i64 n,val:=v }:=by
   apply Array.ext'
   apply List.ext_getElem?
   intro i
   rw[Array.getElem?_toList,Array.getElem?_toList,Array.getElem?_modify,Array.getElem?_modify]
   by_cases hij:j=i
   · subst hij
     rw[if_pos rfl,if_pos rfl,g1]
     have:=zpb h2
     cases e
     simp only at this
     subst this
     rfl
   · rw[if_neg hij,if_neg hij]
  rw[← hmod]
  have hai:(asInt (.int .i64 (m.b n:Int))).run P w=.ok (m.b n:Int) w:=rfl
  simp only[Instr.entryStore,Sem.run_bind,MapKept.run_getObj_map hb,Result.andThen_ok,hai,hfi,MapKept.run_setObj_map _ hb,World.putObj]
theorem ykb {m:AMap} {es:Array MapEntry} {clk:Nat} (hB:BM m es clk) (hm:∀ n,(m.f n).isSome=(mget es n).isSome) (n:Int):yka es clk n=m.stamp n:=by
 unfold yka AMap.stamp
 rw[hm n]
 unfold mget
 cases hf:findI n es.toList 0 with
 | none=>simp[hB.1]
 | some x =>
  obtain⟨j,e,rfl,h1,h2,_⟩:=zkk n _ _ _ hf
  have g1:es[0+j]? = some e:=by rw[Nat.zero_add,← Array.getElem?_toList];exact h1
  simp only[Nat.zero_add]at g1
  obtain⟨hb1,_⟩:=hB.2.1 _ e n g1 (zpb h2)
  simp[g1,hb1]
theorem yhg {P:Program} {t kt et:TypeId} (hm:P.underlying t=some (.map kt et)) {k:KeyQ} (hk:k.okT P kt=true) {w:World} {r clk:Nat} {es:Array MapEntry} (hb:w.heap[r]? = some (.map es clk)) (hi:qM es k=true) (v:Value) :
 (Instr.mapUpdate t (.map (some r)) k.val v).run P w=.ok () (w.putObj r (.map (qput es clk k v).1 (qput es clk k v).2)):=by
 unfold qput
 cases hf:findQ k es.toList 0 with
 | none=>simp[Instr.mapUpdate,run_underlying hm,MapKept.run_getObj_map hb,yg5 hk,yhb hk hi,hf,MapKept.run_setObj_map _ hb,World.putObj]
 | some x =>
  obtain⟨j,e,rfl,h1,h2,_⟩:=zkn k _ _ _ hf
  have he:(((es[0+j]?).map (·.key)).getD k.val)=k.val:=by
   have:es[0+j]? = some e:=by rw[Nat.zero_add,← Array.getElem?_toList];exact h1
   rw[this];exact is_key h2
  simp only[Nat.zero_add]at he
  have hst:(Instr.keyThatStays k.val k.val).run P w=.ok k.val w:=by simp[Instr.keyThatStays,yhu]
  simp[Instr.mapUpdate,run_underlying hm,MapKept.run_getObj_map hb,yg5 hk,yhb hk hi,hf,he,hst,MapKept.run_setObj_map _ hb,World.putObj]
def St.setMap (st:St) (id:Nat) (es:Array MapEntry) (clk:Nat):St:={ st with ver:=upd st.ver id (st.ver id+1),h:=upd st.h id (.map es clk) }
theorem Rel.mapOwn (hr:Rel G st E a) (id:Nat) :
 ∃ E',E'.w=E.w.alloc (.map #[] 0)∧Rel G (st.setMap id #[] 0) E' a∧VR E' (.ref id (st.ver id+1)) (.map (some E.w.heap.size)):=by
 refine⟨{ ver:=upd E.ver id (st.ver id+1),own:=upd E.own id ⟨.map (some E.w.heap.size),E.w.heap.size,0⟩,S:=E.S,w:=E.w.alloc (.map #[] 0) },rfl,?_,?_⟩
 · have hve:E.ver id=st.ver id:=by rw[hr.ver]
   refine hr.own id (.map #[] 0) ⟨.map (some E.w.heap.size),E.w.heap.size,0⟩ (st.ver id+1) rfl (by omega) rfl (fun h=>by omega) rfl (hr.below.alloc hr.below.size _) (by simp) (fun b hb _=>znk _ _ b hb) ?_ ?_
   · exact⟨heap_alloc_new _ _,rfl,hr.below.size,fun h=>absurd (hr.Slt _ h) (by simp)⟩
   · intro b hb;simp only[Blk.at,Option.some.injEq]at hb;subst hb;exact .inr (Nat.le_refl _)
 · exact .ref _ _ _ (by simp[upd]) fun _=>by simp[upd]
theorem Rel.mapSet (hr:Rel G st E a) {id clk:Nat} {es:Array MapEntry} (hh:st.h id=.map es clk) (es':Array MapEntry) (clk':Nat):Rel G { st with h:=upd st.h id (.map es' clk') } { E with w:=E.w.putObj (E.own id).blk (.map es' clk') } a:=by
 have hb:=hr.blocks id
 rw[hh]at hb
 obtain⟨h1,h4,h2,h3⟩:=hb
 have hlt:=(Array.getElem?_eq_some_iff.1 h1).1
 have hr':=hr.own (E':={ E with w:=E.w.putObj (E.own id).blk (.map es' clk') }) id (.map es' clk') (E.own id) (E.ver id) (by funext j;by_cases h:j=id<;>simp[upd,h]) (Nat.le_refl _) (by funext j;by_cases h:j=id<;>simp[upd,h]) (fun _=>rfl) rfl
  (zer hr.below h2 _) (by rw[World.putObj_size];exact Nat.le_refl _) (fun b hb hne=>World.putObj_heap_other (fun he=>hne (by rw[hh,he];rfl))) ⟨World.putObj_heap_same hlt,h4,h2,h3⟩ (fun b hb=>.inl (by rw[hh];exact hb))
 have he:upd st.ver id (E.ver id)=st.ver:=by funext j;by_cases h:j=id<;>simp[upd,h,hr.ver]
 rw[he]at hr'
 exact hr'
theorem Rel.amapSet (hr:Rel G st E a) {id:Nat} {mm:AMap} (hh:st.h id=.amap mm) (n:Int) {p:AV} {x:Value} (hx:VR E p x) (clk:Nat) (es:Array MapEntry) (g1:E.w.heap[(E.own id).blk]? = some (.map es clk)) :
 Rel G { st with h:=upd st.h id (.amap (mm.put n p)) } { E with w:=E.w.putObj (E.own id).blk (.map (mput es clk n x).1 (mput es clk n x).2) } a:=by
 have hb:=hr.blocks id
 rw[hh]at hb
 obtain⟨es',clk',h1,h4,h2,h3,h5,h6⟩:=hb
 rw[g1]at h1
 simp only[Option.some.injEq,Obj.map.injEq]at h1
 obtain⟨rfl,rfl⟩:=h1
 have hlt:=(Array.getElem?_eq_some_iff.1 g1).1
 let E':Env:={ E with w:=E.w.putObj (E.own id).blk (.map (mput es clk n x).1 (mput es clk n x).2) }
 have hle:E.Le E':=⟨fun _ h=>h,fun b hb=>World.putObj_heap_other (fun he=>h3 (he ▸ hb)),fun _=>Nat.le_refl _,fun _ _=>rfl⟩
 have ham:AM E' (upd2 mm.f n p) (mput es clk n x).1:=by
  refine⟨yct _ _ _ _ h5.1,fun k=>?_,fun k b v hb hv=>?_⟩
  · rw[ycs]
    unfold upd2
    by_cases hk:n=k
    · subst hk;simp
    · rw[if_neg hk,if_neg (fun h=>hk h.symm)];exact h5.2.1 k
  · rw[ycs]at hv
    unfold upd2 at hb
    by_cases hk:n=k
    · subst hk
      simp only[if_true,Option.some.injEq]at hb hv
      subst hb;subst hv
      exact hx.mono hle
    · rw[if_neg hk]at hv
      rw[if_neg (fun h=>hk h.symm)]at hb
      exact (h5.2.2 k b v hb hv).mono hle
 have hr':=hr.own (E':=E') id (.amap (mm.put n p)) (E.own id) (E.ver id) (by funext j;by_cases h:j=id<;>simp[E',upd,h]) (Nat.le_refl _) (by funext j;by_cases h:j=id<;>simp[E',upd,h]) (fun _=>rfl) rfl
  (zer hr.below h2 _) (by show _≤(E.w.putObj _ _).heap.size;rw[World.putObj_size];exact Nat.le_refl _) (fun b hb hne=>World.putObj_heap_other (fun he=>hne (by rw[hh,he];rfl))) ⟨_,_,World.putObj_heap_same hlt,h4,h2,h3,ham,h6.put h5.1 h5.2.1 n p x⟩ (fun b hb=>.inl (by rw[hh];exact hb))
 have he:upd st.ver id (E.ver id)=st.ver:=by funext j;by_cases h:j=id<;>simp[upd,h,hr.ver]
 rw[he]at hr'
 exact hr'
theorem Rel.amapNew (hr:Rel G st E a) {id clk:Nat} (hh:st.h id=.map #[] clk):Rel G { st with h:=upd st.h id (.amap (.new clk)) } E a:=by
 have hb:=hr.blocks id
 rw[hh]at hb
 obtain⟨h1,h4,h2,h3⟩:=hb
 have hr':=hr.own (E':=E) id (.amap (.new clk)) (E.own id) (E.ver id) (by funext j;by_cases h:j=id<;>simp[upd,h]) (Nat.le_refl _) (by funext j;by_cases h:j=id<;>simp[upd,h]) (fun _=>rfl) rfl
  hr.below (Nat.le_refl _) (fun b hb hne=>rfl) ⟨_,_,h1,h4,h2,h3,⟨rfl,fun n=>by rfl,fun n b v hb=>by cases hb⟩,rfl,fun i e n he=>by simp at he,fun i j e e' he=>by simp at he⟩ (fun b hb=>.inl (by rw[hh];exact hb))
 have he:upd st.ver id (E.ver id)=st.ver:=by funext j;by_cases h:j=id<;>simp[upd,h,hr.ver]
 rw[he]at hr'
 exact hr'
theorem AWp.amapNew {c:Code} {Q:Exit→St→Prop} (id:Nat) {clk:Nat} (hh:st.h id=.map #[] clk) (h:AWp G c Q { st with h:=upd st.h id (.amap (.new clk)) }):AWp G c Q st:=fun E a hr=>h E a (hr.amapNew hh)
end
end Go.Abs
