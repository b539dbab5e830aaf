/- Several texts of the proof in one: U3, Fs, La, U4, P1, N1, N2. No condition. -/
import Derived.Test.YthjmjdleecmaeaaGreatL17
import Derived.Shelf.Sort.Plain
import Derived.Shelf.Slices.In.SortNone
import Derived.Shelf.Slices.CompactI
import Derived.Ground.NamesProg
import Derived.Ground.Names2Prog
import Derived.Test.YthjmjdleecmaeaaGreatProg
set_option linter.unusedSimpArgs false
set_option linter.unusedVariables false
set_option maxHeartbeats 4000000
set_option maxRecDepth 8000
namespace Go.Proofs.YthjmjdleecmaeaaGreat
open Go Go.Abs Go.Proofs.Tryz
set_option maxRecDepth 4000 in
set_option maxHeartbeats 1000000 in
theorem zog (l:List Int) (n:Int):AC prog 271 [ints l,I n] (I (idxI (fun x=>n==x) l)):=by
 refine AC.ob func271 ntmps271 results271 (zzj (zyr _) (zx1 _)) (zx1 _) fun w S=>AWp.bound 0 rfl fun hlen=>AWp.of_vc [] ?_
 rw[zop]at hlen
 simp[go_sem]
 refine AWp.loop_vc [] (fun m s=>∃ k:Nat,k≤l.length∧m=l.length - k∧s.σ 0=ints l∧s.σ 1=I n∧s.σ 7=I l.length∧s.σ 8=I k∧∀ j x,j < k→l[j]? = some x→(n==x)=false) l.length ⟨0,by simp[go_sem]⟩ ?_
 rintro m s ⟨k,hk,rfl,h0,h1,h7,h8,hno⟩
 by_cases hlt:k < l.length
 · simp[go_sem,h0,h1,h7,h8,hlt]
   by_cases hp:n=l[k]
   · rw[if_pos hp]
     refine PostR.ret ?_
     rw[zn4 hlt (by simp[hp]) hno]
     simp[go_sem]
   · rw[if_neg hp]
     refine⟨l.length - (k+1),by omega,k+1,by omega,rfl,by rw[yro hlt hlen];rfl,?_⟩
     intro j x hj hx
     rcases Nat.lt_succ_iff_lt_or_eq.1 hj with hj|rfl
     · simpa using hno j x hj hx
     · rw[List.getElem?_eq_getElem hlt]at hx;cases hx;exact hp
 · simp[go_sem,h0,h1,h7,h8,hlt]
   refine PostR.ret ?_
   rw[zn5 fun j x hx=>hno j x (by have:=(List.getElem?_eq_some_iff.1 hx).1;omega) hx]
   simp[go_sem]
set_option maxRecDepth 4000 in
set_option maxHeartbeats 1000000 in
theorem zhe (l:List Int) (n:Int):AC prog 248 [ints l,I n] (B (l.contains n)):=by
 refine AC.ob func248 ntmps248 results248 (zzj (zyr _) (zx1 _)) (zx0 _) fun w S=>AWp.of_vc [] ?_
 simp[go_sem]
 refine cpu (zog l n) ?_
 simp[go_sem]
 refine PostR.ret ?_
 have e:decide (0≤idxI (fun x=>n==x) l)=l.contains n:=by
  rw[zn6,List.contains_eq_any_beq]
 simp only[e]
 simp[go_sem]
set_option maxRecDepth 4000 in
set_option maxHeartbeats 1000000 in
theorem zsu (l:List Int) (n:Int):AC prog 214 [ints l,I n] (B (l.contains n)):=by
 refine AC.ob func214 ntmps214 results214 (zzj (zyr _) (zx1 _)) (zx0 _) fun w S=>AWp.of_vc [] ?_
 simp[go_sem]
 refine cpu (zhe l n) ?_
 simp[go_sem]
 exact rets
end Go.Proofs.YthjmjdleecmaeaaGreat
namespace Go.Abs
open Go Go.RowKit Go.Sort Go.Shelf Go.Proofs
theorem zg9 {α:Type} [Inhabited α] [DecidableEq α] (l:List α):(Lib.compact l).length≤l.length:=by
 unfold Lib.compact Lib.compactUpTo
 rw[List.length_map]
 exact Nat.le_trans (List.length_filter_le _ _) (by simp)
theorem zzp {α:Type} [Inhabited α] (enc:α→Value) (off:Nat) (d:Array α) (c:Array Value):(putCells enc off d c).size=c.size:=by simp[putCells]
theorem zzq {α:Type} [Inhabited α] (enc:α→Value) (d:Array α) (c:Array Value) (h:d.size≤c.size) (m:Nat) (hm:m≤d.size):(putCells enc 0 d c).toList.take m=(d.toList.map enc).take m:=by
 apply List.ext_getElem?
 intro k
 by_cases hk:k < m
 · rw[List.getElem?_take,if_pos hk,List.getElem?_take,if_pos hk,Array.getElem?_toList,List.getElem?_map,Array.getElem?_toList]
   have hd:k < d.size:=by omega
   have hc:k < c.size:=by omega
   simp[putCells,hd,hc,getElem!_pos d k hd]
 · rw[List.getElem?_take,if_neg hk,List.getElem?_take,if_neg hk]
theorem ygi {α:Type} [Inhabited α] (enc:α→Value) {w:World} {blk:Nat} {cur:Array Value} {e:TypeId} (hb:w.heap[blk]? = some (.cells cur e (0,0))) (d:Array α) (n:Nat) (os:Array Obj) :
 w.grownBy (grow (putRow enc (Sort.ahead w n) blk 0 d) os) (some blk)∧(grow (putRow enc (Sort.ahead w n) blk 0 d) os).heap[blk]? = some (.cells (putCells enc 0 d cur) e (0,0)):=by
 have hlt:blk < w.heap.size:=(Array.getElem?_eq_some_iff.1 hb).1
 refine⟨⟨rfl,rfl,rfl,by simp,fun k hk hne=>?_⟩,?_⟩
 · rw[heap_grow_old _ _ (by simpa using hk)]
   simp only[putRow,mapBlock,heap_ahead,Array.getElem?_modify]
   rw[if_neg (fun he=>hne (by rw[he]))]
 · rw[heap_grow_old _ _ (by simpa using hlt)]
   simp only[putRow,mapBlock,heap_ahead,Array.getElem?_modify,if_true]
   rw[hb];rfl
theorem znp {α:Type} [Inhabited α] (enc:α→Value) {w:World} {blk:Nat} {cur:Array Value} {e:TypeId} (hb:w.heap[blk]? = some (.cells cur e (0,0))) (d:Array α) (h:d.size≤cur.size) (ht:cur.toList.take d.size=d.toList.map enc):Holds enc w blk 0 d:=by
 intro j hj
 refine⟨?_,?_⟩
 · rw[cell_of_row _ _ _ _ _ _ hb,Nat.zero_add]
   have h1:(cur.toList.take d.size)[j]? = cur[j]? := by rw[List.getElem?_take,if_pos hj,Array.getElem?_toList]
   rw[← h1,ht]
   simp[hj,getElem!_pos d j hj]
 · simp[World.frozen?,hb]
section
variable {G:Ctx} {st:St} {E:Env} {a:Act}
theorem VRs_v {ps:List AV} {vs us:List Value} (h:VRs E ps us) (has:ps=vs.map .v):us=vs:=by
 subst has
 obtain⟨h1,h2⟩:=h
 refine List.ext_getElem? fun i=>?_
 simp only[List.length_map]at h1
 by_cases hi:i < vs.length
 · have e1:vs[i]? = some vs[i]:=List.getElem?_eq_getElem hi
   have e2:us[i]? = some (us[i]'(by omega)):=List.getElem?_eq_getElem _
   have:=h2 i (.v vs[i]) _ (by simp[e1]) e2
   rw[e1,e2,this.v_inv]
 · rw[List.getElem?_eq_none (by omega),List.getElem?_eq_none (by omega)]
theorem vrs_v (vs:List Value) {ps:List AV} (has:ps=vs.map .v):VRs E ps vs:=by
 subst has
 refine⟨by simp,fun i c u hc hu=>?_⟩
 simp only[List.getElem?_map,Option.map_eq_some_iff]at hc
 obtain⟨x,hx,rfl⟩:=hc
 rw[hx]at hu;cases hu;exact .v _
theorem zln (l:List Int):(l.map fun n=>AV.v (.int .i64 n)).flatMap AV.cells=(l.map (Value.int .i64)).map .v:=by
 induction l with
 | nil=>rfl
 | cons n l ih=>simp[AV.cells,ih]
theorem Rel.rewrite (hr:Rel G st E a) {id e sz:Nat} {xs ys:List AV} (hh:st.h id=.arr e sz xs) {w':World} (hg:E.w.grownBy w' (E.own id).val.ownBlock) {vs':List Value} (hlen:∀ y∈ys,y.cells.length=sz) (hys:ys.flatMap AV.cells=vs'.map .v)
 {v':Value} (hown:w'.ownsRowW G.w0.heap.size e sz v' ys.length vs') (hob:∀ b,v'.ownBlock=some b→(E.own id).val.ownBlock=some b) (k:Nat) (hk:E.ver id≤k) (hkeep:k=E.ver id→v'=(E.own id).val) :
 ∃ E',E'.w=w'∧E'.ver=upd E.ver id k∧(E'.own id).val=v'∧Rel G { st with ver:=upd st.ver id k,h:=upd st.h id (.arr e sz ys) } E' a:=by
 have hb:=hr.blocks id
 rw[hh]at hb
 obtain⟨hsz,us,hown0,hlen0,hvs0,hblk0⟩:=hb
 let o:Own:=⟨v',(E.own id).blk,(E.own id).sz⟩
 refine⟨{ ver:=upd E.ver id k,own:=upd E.own id o,S:=E.S,w:=w' },rfl,rfl,by simp[upd,o],?_⟩
 refine hr.own id (.arr e sz ys) o k rfl hk rfl (fun h=>by simp only[o];rw[hkeep h]) rfl (hr.below.grown hg hr.below.size fun j hj=>?_) hg.size (fun b hlt hne=>hg.block b hlt ?_) ?_ fun b hb=>?_
 · exact (hown0.lt j hj).1
 · rw[hh]at hne;exact fun he=>hne he.symm
 · exact⟨hsz,vs',hown,hlen,vrs_v vs' hys,fun b hb=>⟨(hblk0 b (hob b hb)).1,(hblk0 b (hob b hb)).2⟩⟩
 · rw[hh];exact .inl (hob b hb)
theorem Rel.arrRow (hr:Rel G st E a) {id e sz:Nat} {xs:List AV} (hh:st.h id=.arr e sz xs) {vs:List Value} (hxs:xs.flatMap AV.cells=vs.map .v) :
 vs.length=xs.length * sz∧(((E.own id).val=.slice none 0 0∧xs=[])∨∃ g cap cur,(E.own id).val=.slice (some ⟨g,0,none⟩) xs.length cap∧G.w0.heap.size≤g∧E.w.heap[g]? = some (.cells cur e (0,0))∧xs.length≤cap∧cap≤maxLen∧cap * sz≤cur.size∧cur.toList.take (xs.length * sz)=vs):=by
 have hb:=hr.blocks id
 rw[hh]at hb
 obtain⟨hsz,us,hown,hlen,hvs,hblk⟩:=hb
 have:=VRs_v hvs hxs
 subst this
 refine⟨hown.1,?_⟩
 rcases hown.2 with ⟨h1,h2⟩|h
 · exact .inl ⟨h1,List.eq_nil_of_length_eq_zero h2⟩
 · exact .inr h
theorem ypl {α:Type} (f:Nat→α) (i:Nat):upd f i (f i)=f:=by funext j;simp only[upd];split<;>simp_all
theorem CallSem.sortInts {ρ:Ren} {id k e:Nat} {l:List Int} {dst:Option Tmp} {K:St→Prop} (L:Lays.n189 G.P ρ) (hfn:∃ fn,G.P.funcs[ρ.f 189]? = some fn∧fn.body.isSome=true∧(fn.name == "runtime.NumGoroutine")=false)
 (hk:k=st.ver id) (hh:st.h id=.arr e 1 (l.map fun n=>.v (.int .i64 n))) (hd:dstOK G.n dst) (hsz:l.length < 4611686018427387904)
 (hK:K ((st.setH id (.arr e 1 ((l.mergeSort fun x y=>decide (x≤y)).map fun n=>.v (.int .i64 n)))).put dst (.tup []))):CallSem G (ρ.f 189) [.ref id k] dst K st:=by
 refine⟨hfn,fun E a vs hr hl hv=>?_⟩
 have hs:vs=#[(E.own id).val]:=by
  have h0:=hv 0 _ rfl
  have:vs.getD 0 undef=(E.own id).val:=by cases h0 with|ref _ _ _ h1 h2=>exact h2 (by rw[hr.ver];exact hk)
  have hs1:vs.size=1:=hl
  apply Array.ext
  · simpa using hl
  · intro i h1 h2
    have:i=0:=by omega
    subst this
    simpa [Array.getD_eq_getD_getElem?,hs1] using this
 have hxs:(l.map fun n=>AV.v (.int .i64 n)).flatMap AV.cells=(l.map (Value.int .i64)).map .v:=by
  exact zln _
 have hys:((l.mergeSort fun x y=>decide (x≤y)).map fun n=>AV.v (.int .i64 n)).flatMap AV.cells=((l.mergeSort fun x y=>decide (x≤y)).map (Value.int .i64)).map .v:=by
  exact zln _
 have hlen1:∀ y∈((l.mergeSort fun x y=>decide (x≤y)).map fun n=>AV.v (.int .i64 n)),y.cells.length=1:=by
  intro y hy;obtain⟨n,_,rfl⟩:=List.mem_map.1 hy;rfl
 obtain⟨hvl,hrow⟩:=hr.arrRow hh hxs
 have hve:E.ver id=st.ver id:=by rw[hr.ver]
 rw[hs]
 rcases hrow with ⟨hnil,hx⟩|⟨g,cap,cur,hval,hg,hheap,hn,hc,hcs,ht⟩
 · have hl0:l=[]:=by simpa using hx
   subst hl0
   rw[hnil]
   refine (Any.slices_Sort_int_none L none 0 E.w).mono ?_
   rintro en w' ⟨rfl,rfl⟩
   refine⟨_,rfl,_,E,rfl,Rel.put (r:=.tup []) ?_ (.tup [] #[] rfl (by simp)) (fun d he=>by rw[he]at hd;exact hd),hK⟩
   have:st.setH id (.arr e 1 (([]:List Int).mergeSort (fun x y=>decide (x≤y)) |>.map fun n=>AV.v (.int .i64 n)))=st:=by
    simp only[St.setH,List.mergeSort_nil,List.map_nil]
    have h1:st.h id=.arr e 1 []:=by simpa using hh
    rw[← h1,ypl]
   rw[this];exact hr
 · have hll:(l.map fun n=>AV.v (.int .i64 n)).length=l.length:=by simp
   rw[hll]at hval hn
   simp only[hll,Nat.mul_one]at ht hcs
   rw[hval]
   have hsz':l.toArray.size≤cur.size:=by simp;omega
   have hblt:g < E.w.heap.size:=(Array.getElem?_eq_some_iff.1 hheap).1
   refine (Any.slices_Sort_int L g 0 cap l E.w (znp _ hheap l.toArray hsz' (by simpa using ht)) hblt hsz).mono ?_
   rintro en w' ⟨rfl,n,os,rfl⟩
   obtain⟨hgb,hb'⟩:=ygi (Value.int .i64) hheap (l.mergeSort fun x y=>decide (x≤y)).toArray n os
   have hml:(l.mergeSort fun x y=>decide (x≤y)).length=l.length:=List.length_mergeSort _
   obtain⟨E',hw,hver,hval',hrel⟩:=hr.rewrite (v':=(E.own id).val) hh (by rw[hval];exact hgb) hlen1 hys (by
    rw[hval]
    refine⟨by simp[hml],.inr ⟨g,cap,_,by simp[hml],hg,hb',by simpa [hml] using hn,hc,?_,?_⟩⟩
    · rw[zzp];simpa using hcs
    · rw[zzq _ _ _ (by simp[hml];omega) _ (by simp),List.take_of_length_le (by simp)]) (fun _ h=>h) (E.ver id) (Nat.le_refl _) (fun _=>rfl)
   refine⟨_,rfl,_,E',hw,Rel.put (r:=.tup []) ?_ (.tup [] #[] rfl (by simp)) (fun d he=>by rw[he]at hd;exact hd),hK⟩
   have:({ st with ver:=upd st.ver id (E.ver id),h:=upd st.h id (.arr e 1 ((l.mergeSort fun x y=>decide (x≤y)).map fun n=>AV.v (.int .i64 n))) }:St)=st.setH id (.arr e 1 ((l.mergeSort fun x y=>decide (x≤y)).map fun n=>.v (.int .i64 n))):=by
    simp only[St.setH,hve,ypl]
   rw[← this];exact hrel
theorem CallSem.compactInts {ρ:Ren} {id k e:Nat} {l:List Int} {dst:Option Tmp} {K:St→Prop} (L:Lays2.n20 G.P ρ) (hfn:∃ fn,G.P.funcs[ρ.f 20]? = some fn∧fn.body.isSome=true∧(fn.name == "runtime.NumGoroutine")=false)
 (hk:k=st.ver id) (hh:st.h id=.arr e 1 (l.map fun n=>.v (.int .i64 n))) (hd:dstOK G.n dst) (hcl:(Lib.compact l).length≤l.length)
 (hK:K ((st.setArr id e 1 ((Lib.compact l).map fun n=>.v (.int .i64 n))).put dst (.ref id (st.ver id+1)))):CallSem G (ρ.f 20) [.ref id k] dst K st:=by
 refine⟨hfn,fun E a vs hr hl hv=>?_⟩
 have hs:vs=#[(E.own id).val]:=by
  have h0:=hv 0 _ rfl
  have:vs.getD 0 undef=(E.own id).val:=by cases h0 with|ref _ _ _ h1 h2=>exact h2 (by rw[hr.ver];exact hk)
  have hs1:vs.size=1:=hl
  apply Array.ext
  · simpa using hl
  · intro i h1 h2
    have:i=0:=by omega
    subst this
    simpa [Array.getD_eq_getD_getElem?,hs1] using this
 have hxs:(l.map fun n=>AV.v (.int .i64 n)).flatMap AV.cells=(l.map (Value.int .i64)).map .v:=by
  exact zln _
 have hys:((Lib.compact l).map fun n=>AV.v (.int .i64 n)).flatMap AV.cells=((Lib.compact l).map (Value.int .i64)).map .v:=by
  exact zln _
 have hlen1:∀ y∈((Lib.compact l).map fun n=>AV.v (.int .i64 n)),y.cells.length=1:=by
  intro y hy;obtain⟨n,_,rfl⟩:=List.mem_map.1 hy;rfl
 obtain⟨hvl,hrow⟩:=hr.arrRow hh hxs
 have hve:E.ver id=st.ver id:=by rw[hr.ver]
 rw[hs]
 rcases hrow with ⟨hnil,hx⟩|⟨g,cap,cur,hval,hg,hheap,hn,hc,hcs,ht⟩
 · have hl0:l=[]:=by simpa using hx
   subst hl0
   have hc0:Lib.compact ([]:List Int)=[]:=List.eq_nil_of_length_eq_zero (by simpa using hcl)
   rw[hnil]
   refine (Any.slices_Compact_int_empty L none 0 E.w).mono ?_
   rintro en w' ⟨rfl,rfl⟩
   obtain⟨E',hw,hver,hval',hrel⟩:=hr.rewrite (v':=.slice none 0 0) (w':=E.w) hh ⟨rfl,rfl,rfl,Nat.le_refl _,fun _ _ _=>rfl⟩ hlen1 hys (by rw[hc0];exact⟨by simp,.inl ⟨rfl,rfl⟩⟩) (fun b h=>by simp[Value.ownBlock]at h) (st.ver id+1) (by omega) (fun h=>by omega)
   refine⟨_,rfl,_,E',hw,Rel.put hrel (.ref _ _ _ ?_ fun _=>?_) (fun d he=>by rw[he]at hd;exact hd),hK⟩
   · rw[hver];simp[upd]
   · rw[hval']
 · have hll:(l.map fun n=>AV.v (.int .i64 n)).length=l.length:=by simp
   rw[hll]at hval hn
   simp only[hll,Nat.mul_one]at ht hcs
   rw[hval]
   have hsz:l.toArray.size≤cur.size:=by simp;omega
   refine (Any.slices_Compact_int L g 0 cap l E.w (znp _ hheap l.toArray hsz (by simpa using ht)) (by unfold maxLen at hc;omega) hn).mono ?_
   rintro en w' ⟨rfl,q,rfl⟩
   obtain⟨hgb,hb'⟩:=ygi (Value.int .i64) hheap (Lib.compact l++List.replicate (l.length - (Lib.compact l).length) 0).toArray q #[]
   simp only[grow_empty]at hgb hb'
   obtain⟨E',hw,hver,hval',hrel⟩:=hr.rewrite (v':=.slice (some ⟨g,0,none⟩) (Lib.compact l).length cap) hh (by rw[hval];exact hgb) hlen1 hys (by
    refine⟨by simp,.inr ⟨g,cap,_,by simp,hg,hb',by simp;omega,hc,?_,?_⟩⟩
    · rw[zzp];simpa using hcs
    · rw[zzq _ _ _ (by simp;omega) _ (by simp)]
      simp[List.take_append]) (fun b h=>by rw[hval];exact h) (st.ver id+1) (by omega) (fun h=>by omega)
   refine⟨_,rfl,_,E',hw,Rel.put hrel (.ref _ _ _ ?_ fun _=>?_) (fun d he=>by rw[he]at hd;exact hd),hK⟩
   · rw[hver];simp[upd]
   · rw[hval']
end
end Go.Abs
namespace Go.Proofs
open Go.Shelf
def Tryz.laysSort_ren:Go.Shelf.Ren:=⟨fun|189=>114|125=>177|257=>176|128=>235|129=>236|294=>226|295=>227|296=>228|297=>229|298=>230|299=>231|216=>232|300=>233|301=>234|328=>262|329=>263|330=>264|331=>265|332=>266|215=>225|343=>277|n=>n,fun|28=>26|3=>3|46=>226|0=>0|51=>274|53=>212|4=>4|183=>268|182=>267|131=>149|5=>5|9=>9|218=>292|222=>296|228=>305|229=>306|n=>n,fun|n=>n⟩
theorem Tryz.laysSort:Go.Proofs.Lays.n189 Tryz.prog Tryz.laysSort_ren:={
 mixed:=by kernel_rfl
 f125:=Tryz.func177.trans (congrArg some (by kernel_rfl))
 f128:=Tryz.func235.trans (congrArg some (by kernel_rfl))
 f129:=Tryz.func236.trans (congrArg some (by kernel_rfl))
 f189:=Tryz.func114.trans (congrArg some (by kernel_rfl))
 f215:=Tryz.func225.trans (congrArg some (by kernel_rfl))
 f216:=Tryz.func232.trans (congrArg some (by kernel_rfl))
 f257:=Tryz.func176.trans (congrArg some (by kernel_rfl))
 f294:=Tryz.func226.trans (congrArg some (by kernel_rfl))
 f295:=Tryz.func227.trans (congrArg some (by kernel_rfl))
 f296:=Tryz.func228.trans (congrArg some (by kernel_rfl))
 f297:=Tryz.func229.trans (congrArg some (by kernel_rfl))
 f298:=Tryz.func230.trans (congrArg some (by kernel_rfl))
 f299:=Tryz.func231.trans (congrArg some (by kernel_rfl))
 f300:=Tryz.func233.trans (congrArg some (by kernel_rfl))
 f301:=Tryz.func234.trans (congrArg some (by kernel_rfl))
 f328:=Tryz.func262.trans (congrArg some (by kernel_rfl))
 f329:=Tryz.func263.trans (congrArg some (by kernel_rfl))
 f330:=Tryz.func264.trans (congrArg some (by kernel_rfl))
 f331:=Tryz.func265.trans (congrArg some (by kernel_rfl))
 f332:=Tryz.func266.trans (congrArg some (by kernel_rfl))
 f343:=Tryz.func277.trans (congrArg some (by kernel_rfl))
 t0:=Tryz.underlying0
 a0:=Tryz.isAgg0
 z0:=Tryz.sizeOf0
 v0:=Tryz.zeroValue0
 t3:=Tryz.underlying3
 a3:=Tryz.isAgg3
 z3:=Tryz.sizeOf3
 v3:=Tryz.zeroValue3
 t4:=Tryz.underlying4
 a4:=Tryz.isAgg4
 z4:=Tryz.sizeOf4
 v4:=Tryz.zeroValue4
 t5:=Tryz.underlying5
 a5:=Tryz.isAgg5
 z5:=Tryz.sizeOf5
 v5:=Tryz.zeroValue5
 t9:=Tryz.underlying9
 a9:=Tryz.isAgg9
 z9:=Tryz.sizeOf9
 v9:=Tryz.zeroValue9
 t28:=Tryz.underlying26
 a28:=Tryz.isAgg26
 z28:=Tryz.sizeOf26
 v28:=Tryz.zeroValue26
 t46:=Tryz.underlying226
 a46:=Tryz.isAgg226
 z46:=Tryz.sizeOf226
 v46:=Tryz.zeroValue226
 t51:=Tryz.underlying274
 a51:=Tryz.isAgg274
 z51:=Tryz.sizeOf274
 v51:=Tryz.zeroValue274
 t53:=Tryz.underlying212
 a53:=Tryz.isAgg212
 z53:=Tryz.sizeOf212
 v53:=Tryz.zeroValue212
 t131:=Tryz.underlying149
 a131:=Tryz.isAgg149
 z131:=Tryz.sizeOf149
 v131:=Tryz.zeroValue149
 t182:=Tryz.underlying267
 a182:=Tryz.isAgg267
 z182:=Tryz.sizeOf267
 v182:=Tryz.zeroValue267
 t183:=Tryz.underlying268
 a183:=Tryz.isAgg268
 z183:=Tryz.sizeOf268
 v183:=Tryz.zeroValue268
 t218:=Tryz.underlying292
 a218:=Tryz.isAgg292
 z218:=Tryz.sizeOf292
 v218:=Tryz.zeroValue292
 t222:=Tryz.underlying296
 a222:=Tryz.isAgg296
 z222:=Tryz.sizeOf296
 v222:=Tryz.zeroValue296
 t228:=Tryz.underlying305
 a228:=Tryz.isAgg305
 z228:=Tryz.sizeOf305
 v228:=Tryz.zeroValue305
 t229:=Tryz.underlying306
 a229:=Tryz.isAgg306
 z229:=Tryz.sizeOf306
 v229:=Tryz.zeroValue306 }
def Tryz.laysCompact_ren:Go.Shelf.Ren:=⟨fun|20=>209|n=>n,fun|22=>26|3=>3|4=>4|0=>0|n=>n,fun|n=>n⟩
theorem Tryz.laysCompact:Go.Proofs.Lays2.n20 Tryz.prog Tryz.laysCompact_ren:={
 mixed:=by kernel_rfl
 f20:=Tryz.func209.trans (congrArg some (by kernel_rfl))
 t0:=Tryz.underlying0
 a0:=Tryz.isAgg0
 z0:=Tryz.sizeOf0
 v0:=Tryz.zeroValue0
 t3:=Tryz.underlying3
 a3:=Tryz.isAgg3
 z3:=Tryz.sizeOf3
 v3:=Tryz.zeroValue3
 t4:=Tryz.underlying4
 a4:=Tryz.isAgg4
 z4:=Tryz.sizeOf4
 v4:=Tryz.zeroValue4
 t22:=Tryz.underlying26
 a22:=Tryz.isAgg26
 z22:=Tryz.sizeOf26
 v22:=Tryz.zeroValue26
 i3:=by kernel_rfl }
end Go.Proofs
namespace Go.Proofs.YthjmjdleecmaeaaGreat
open Go Go.Abs Go.Shelf Go.Proofs.Tryz
set_option maxRecDepth 4000 in
set_option maxHeartbeats 1000000 in
theorem zgl (l:List Int) (hsz:l.length≤1000000000):AC prog 208 [ints l] (.fresh 3 1 (l.map I)):=by
 refine AC.ob func208 ntmps208 results208 (zzi (zyr _)) (zxd _ _) fun w S=>AWp.of_vc [5] ?_
 simp[go_sem]
 refine⟨?_,?_⟩
 · refine⟨⟨by omega,by omega⟩,?_⟩
   exact rets
 · rintro rfl
   refine PostR.retW [] (r0:=.v (.slice none 0 0)) ?_ (.fresh _ _)
   simp[go_sem]
def yjl (l:List Int):List Int:=Lib.compact (l.mergeSort fun x y=>decide (x≤y))
set_option maxRecDepth 4000 in
set_option maxHeartbeats 1000000 in
theorem zsw (l:List Int) (hsz:l.length≤1000000000):AC prog 140 [ints l] (ints (yjl l)):=by
 refine AC.ob func140 ntmps140 results140 (zzi (zyr _)) (zxe _) fun w S=>AWp.of_vc [] ?_
 simp[go_sem]
 refine cpu (zgl l hsz) ?_
 simp[go_sem]
 refine CallSem.sortInts (ρ:=laysSort_ren) (id:=5) (e:=3) (l:=l) laysSort ⟨_,func114,rfl,rfl⟩ (by simp[go_sem]) (by simp[go_sem,Function.comp_def];try rfl) (by simp[go_sem]) (by omega) ?_
 simp[go_sem]
 refine CallSem.compactInts (ρ:=laysCompact_ren) (id:=5) (e:=3) (l:=l.mergeSort fun x y=>decide (x≤y)) laysCompact ⟨_,func209,rfl,rfl⟩ (by simp[go_sem]) (by simp[go_sem]) (by simp[go_sem]) (zg9 _) ?_
 simp[go_sem]
 refine PostR.retW [5] ?_ (.refl _)
 simp[go_sem,yjl]
end Go.Proofs.YthjmjdleecmaeaaGreat
namespace Go.Proofs.YthjmjdleecmaeaaGreat
open Go Go.Abs Go.Lib
theorem zha (l:List Int) (hs:l.Pairwise (·≤·)):∀ m,m≤l.length→(compactUpTo l.toArray m).Pairwise (· < ·)∧∀ x,x∈compactUpTo l.toArray m↔x∈l.take m
 | 0,_=>by simp[compactUpTo]
 | m+1,hm=>by
  obtain⟨h1,h2⟩:=zha l hs m (by omega)
  have hlt:m < l.length:=by omega
  have hd:l.toArray[m]! = l[m]:=by simp[hlt]
  have ht:l.take (m+1)=l.take m++[l[m]]:=List.take_succ_eq_append_getElem hlt
  rw[compactUpTo_succ,hd]
  have hle:∀ x,x∈l.take m→x≤l[m]:=by
   have:=hs.sublist (List.take_sublist (m+1) l)
   rw[ht]at this
   exact fun x hx=>(List.pairwise_append.1 this).2.2 x hx _ (by simp)
  by_cases hk:keeps l.toArray m=true
  · rw[if_pos hk]
    refine⟨List.pairwise_append.2 ⟨h1,by simp,fun x hx y hy=>?_⟩,fun x=>?_⟩
    · simp only[List.mem_singleton]at hy
      subst hy
      have hx':=(h2 x).1 hx
      have hne:x≠l[m]:=by
       intro he
       simp only[keeps,decide_eq_true_eq]at hk
       rcases hk with h0|h0
       · subst h0;simp at hx'
       · have hm0:0 < m:=by
          rcases Nat.eq_zero_or_pos m with h|h
          · subst h;simp at hx'
          · exact h
         have hp:l.toArray[m - 1]! = l[m - 1]:=by simp[show m - 1 < l.length from by omega]
         rw[hd,hp]at h0
         -- x is at some place before m, so x is at most the one before m
         obtain⟨i,hi,hxi⟩:=List.mem_iff_getElem.1 hx'
         simp only[List.length_take]at hi
         simp only[List.getElem_take]at hxi
         have h3:l[i]≤l[m - 1]:=by
          by_cases h:i=m - 1
          · subst h;exact Int.le_refl _
          · exact List.pairwise_iff_getElem.1 hs i (m - 1) (by omega) (by omega) (by omega)
         have h4:l[m - 1]≤l[m]:=List.pairwise_iff_getElem.1 hs (m - 1) m (by omega) (by omega) (by omega)
         omega
      have:=hle x hx'
      omega
    · rw[ht,List.mem_append,List.mem_append,h2]
  · rw[if_neg hk]
    refine⟨by simpa using h1,fun x=>?_⟩
    have hk':m≠0∧l.toArray[m]! = l.toArray[m - 1]! := by
     simp only[keeps,decide_eq_true_eq,not_or,Decidable.not_not]at hk
     exact hk
    have hp:l.toArray[m - 1]! = l[m - 1]:=by simp[show m - 1 < l.length from by omega]
    have he:l[m]=l[m - 1]:=by rw[hd,hp]at hk';exact hk'.2
    rw[List.append_nil,h2,ht,List.mem_append,List.mem_singleton]
    constructor
    · exact .inl
    · rintro (h|rfl)
      · exact h
      · rw[he]
        have hm0:=hk'.1
        exact List.mem_iff_getElem.2 ⟨m - 1,by simp;omega,by simp⟩
theorem yjo (l:List Int):(yjl l).Pairwise (· < ·)∧∀ x,x∈yjl l↔x∈l:=by
 have hs:(l.mergeSort fun x y=>decide (x≤y)).Pairwise (·≤·):=by
  have:=List.pairwise_mergeSort (le:=fun x y:Int=>decide (x≤y)) (fun a b c h1 h2=>by simp only[decide_eq_true_eq]at *;omega) (fun a b=>by simp only[Bool.or_eq_true,decide_eq_true_eq];omega) l
  exact this.imp fun h=>by simpa using h
 obtain⟨h1,h2⟩:=zha _ hs _ (Nat.le_refl _)
 refine⟨h1,fun x=>?_⟩
 rw[show (x∈yjl l)=(x∈compactUpTo (l.mergeSort fun x y=>decide (x≤y)).toArray (l.mergeSort fun x y=>decide (x≤y)).length) from rfl,h2,List.take_length,List.mem_mergeSort]
theorem zzv (l:List Int) (n:Int) (hs:l.Pairwise (· < ·)):(putL l n).Pairwise (· < ·)∧∀ x,x∈putL l n↔x∈l∨x=n:=by
 unfold putL
 by_cases hn:l.contains n=true
 · rw[if_pos hn]
   have hn':n∈l:=by simpa using hn
   exact⟨hs,fun x=>⟨.inl,by rintro (h|rfl);exact h;exact hn'⟩⟩
 · rw[if_neg hn]
   have hn':n∉l:=by simpa using hn
   have hsplit:l.takeWhile (fun x=>decide (x < n))++l.dropWhile (fun x=>decide (x < n))=l:=List.takeWhile_append_dropWhile
   have hs':=hs
   rw[← hsplit,List.pairwise_append]at hs'
   obtain⟨g1,g2,g3⟩:=hs'
   have hlow:∀ x∈l.takeWhile (fun x=>decide (x < n)),x < n:=fun x hx=>by
    have:∀ (m:List Int) x,x∈m.takeWhile (fun x=>decide (x < n))→x < n:=by
     intro m
     induction m with
     | nil=>intro x hx;simp at hx
     | cons y m ih =>
      intro x hx
      rw[List.takeWhile_cons]at hx
      split at hx
      · rename_i hy
        rcases List.mem_cons.1 hx with rfl|hx
        · simpa using hy
        · exact ih x hx
      · simp at hx
    exact this l x hx
   have hhigh:∀ x∈l.dropWhile (fun x=>decide (x < n)),n < x:=fun x hx=>by
    have:∀ m:List Int,m.Pairwise (· < ·)→n∉m→∀ x∈m.dropWhile (fun x=>decide (x < n)),n < x:=by
     intro m
     induction m with
     | nil=>intro _ _ x hx;simp at hx
     | cons y m ih =>
      intro hp hnm x hx
      rw[List.dropWhile_cons]at hx
      rw[List.pairwise_cons]at hp
      simp only[List.mem_cons,not_or]at hnm
      split at hx
      · exact ih hp.2 hnm.2 x hx
      · rename_i hy
        simp only[decide_eq_true_eq]at hy
        rcases List.mem_cons.1 hx with rfl|hx
        · omega
        · have:=hp.1 x hx;omega
    exact this l hs hn' x hx
   refine⟨List.pairwise_append.2 ⟨g1,List.pairwise_cons.2 ⟨hhigh,g2⟩,fun x hx y hy=>?_⟩,fun x=>?_⟩
   · rcases List.mem_cons.1 hy with rfl|hy
     · exact hlow x hx
     · exact g3 x hx y hy
   · conv=>rhs;rw[← hsplit]
     simp only[List.mem_append,List.mem_cons]
     constructor
     · rintro (h|h|h)
       · exact .inl (.inl h)
       · exact .inr h
       · exact .inl (.inr h)
     · rintro ((h|h)|h)
       · exact .inl h
       · exact .inr (.inr h)
       · exact .inr (.inl h)
theorem zl4 (l:List Int):∀ a:List Int,a.Pairwise (· < ·)→(l.foldl putL a).Pairwise (· < ·)∧∀ x,x∈l.foldl putL a↔x∈a∨x∈l:=by
 induction l with
 | nil=>intro a ha;simp[ha]
 | cons y l ih =>
  intro a ha
  obtain⟨h1,h2⟩:=zzv a y ha
  obtain⟨h3,h4⟩:=ih _ h1
  refine⟨h3,fun x=>?_⟩
  rw[List.foldl_cons,h4,h2,List.mem_cons]
  constructor
  · rintro ((h|h)|h)
    · exact .inl h
    · exact .inr (.inl h)
    · exact .inr (.inr h)
  · rintro (h|h|h)
    · exact .inl (.inl h)
    · exact .inl (.inr h)
    · exact .inr h
theorem yjk (l:List Int):(yjh l).Pairwise (· < ·)∧∀ x,x∈yjh l↔x∈l:=by
 obtain⟨h1,h2⟩:=zl4 l [] (by simp)
 exact⟨h1,fun x=>by rw[show yjh l=l.foldl putL [] from rfl,h2];simp⟩
theorem yk0:∀ {a b:List Int},a.Pairwise (· < ·)→b.Pairwise (· < ·)→(∀ x,x∈a↔x∈b)→a=b
 | [],[],_,_,_=>rfl
 | [],y::b,_,_,h=>by have:=(h y).2 (by simp);simp at this
 | x::a,[],_,_,h=>by have:=(h x).1 (by simp);simp at this
 | x::a,y::b,ha,hb,h=>by
  rw[List.pairwise_cons]at ha hb
  have hxy:x=y:=by
   rcases List.mem_cons.1 ((h x).1 (by simp)) with h1|h1
   · exact h1
   · rcases List.mem_cons.1 ((h y).2 (by simp)) with h2|h2
     · exact h2.symm
     · have:=hb.1 x h1;have:=ha.1 y h2;omega
  subst hxy
  congr 1
  refine yk0 ha.2 hb.2 fun z=>⟨fun hz=>?_,fun hz=>?_⟩
  · rcases List.mem_cons.1 ((h z).1 (by simp[hz])) with h1|h1
    · have:=ha.1 z hz;omega
    · exact h1
  · rcases List.mem_cons.1 ((h z).2 (by simp[hz])) with h1|h1
    · have:=hb.1 z hz;omega
    · exact h1
theorem yjm (l:List Int):yjl l=yjh l :=
 yk0 (yjo l).1 (yjk l).1 fun x=>by rw[(yjo l).2,(yjk l).2]
end Go.Proofs.YthjmjdleecmaeaaGreat
namespace Go.Proofs.YthjmjdleecmaeaaGreat
open Go Go.Abs
theorem wrapOf {n:Int} (h1:-9223372036854775808≤n) (h2:n≤9223372036854775807):IntKind.i64.wrap n=n:=wrap_i64 h1 h2
theorem yrm {k:Nat} (hm:k≤maxLen):IntKind.i64.wrap (k:Int)=(k:Int):=wrap_i64 (by omega) (by unfold maxLen at hm;omega)
end Go.Proofs.YthjmjdleecmaeaaGreat
namespace Go.Proofs.YthjmjdleecmaeaaGreat
open Go Go.Abs Go.Proofs.Tryz
theorem yor {α:Type} (p:α→Bool):∀ (l:List α) (k:Nat),k≤l.length→(∀ (j:Nat) x,j < k→l[j]? = some x→p x=true)→(∀ x,l[k]? = some x→p x=false)→(l.takeWhile p).length=k
 | [],k,hk,_,_=>by simp at hk;simp[hk]
 | x::l,0,_,_,h2=>by simp[List.takeWhile_cons,h2 x rfl]
 | x::l,k+1,hk,h1,h2=>by
  rw[List.takeWhile_cons,h1 0 x (by omega) rfl]
  simp only[if_true,List.length_cons]
  rw[yor p l k (by simpa using hk) (fun j y hj hy=>h1 (j+1) y (by omega) (by simpa using hy)) (fun y hy=>h2 y (by simpa using hy))]
def hasI (l:List Int) (n:Int):Bool:=l.contains n
theorem hasI_iff {l:List Int} {n:Int}:hasI l n=true↔n∈l:=by unfold hasI;simp
theorem wrap_u64 {n:Int} (h1:0≤n) (h2:n < 18446744073709551616):IntKind.u64.wrap n=n:=by
 simp[IntKind.wrap,IntKind.bits,IntKind.signed];omega
theorem nan1_ac (n:Int):AC prog 253 [I n] (B false):=by
 refine AC.ob func253 ntmps253 results253 (zzi (zx1 _)) (zx0 _) fun w S'=>AWp.of_vc [] ?_
 simp[go_sem]
 exact rets
theorem nan2_ac (n:Int):AC prog 225 [I n] (B false):=by
 refine AC.ob func225 ntmps225 results225 (zzi (zx1 _)) (zx0 _) fun w S'=>AWp.of_vc [] ?_
 simp[go_sem]
 exact rets
theorem less_ac (a b:Int):AC prog 232 [I a,I b] (B (decide (a < b))):=by
 refine AC.ob func232 ntmps232 results232 (zzj (zx1 _) (zx1 _)) (zx0 _) fun w S'=>AWp.of_vc [] ?_
 simp[go_sem]
 refine cpu (nan2_ac a) ?_
 simp[go_sem]
 exact rets
def lowIdx (L:List Int) (n:Int):Nat:=(L.takeWhile fun x=>decide (x < n)).length
def yh0 (L:List Int) (n:Int):AV:=.tup [I (lowIdx L n),B (hasI L n)]
theorem zxr (L:List Int) (n:Int):PureR (yh0 L n):=by
 intro r hr
 simp only[List.mem_cons,List.not_mem_nil,or_false]at hr
 rcases hr with rfl|rfl
 · exact zx1 _
 · exact zx0 _
theorem yh1 (L:List Int) (n:Int) (hs:L.Pairwise (· < ·)) (hsz:L.length≤1000000000):AC prog 217 [ints L,I n] (yh0 L n):=by
 refine AC.ob func217 ntmps217 results217 (zzj (zyr _) (zx1 _)) (zxr _ _) fun w S'=>AWp.bound 0 rfl fun hlen=>AWp.of_vc [] ?_
 rw[zop]at hlen
 simp[go_sem]
 refine AWp.loop_vc [] (fun m s=>∃ i j:Nat,i≤j∧j≤L.length∧m=j - i∧s.σ 0=ints L∧s.σ 1=I n∧s.σ 6=I L.length∧s.σ 7=I i∧s.σ 8=I j∧(∀ (p:Nat) x,p < i→L[p]? = some x→x < n)∧(∀ (p:Nat) x,j≤p→L[p]? = some x→¬ x < n)) L.length ⟨0,L.length,by simp[go_sem];intro p x hp hx;have:=(List.getElem?_eq_some_iff.1 hx).1;omega⟩ ?_
 rintro m s ⟨i,j,hij,hj,rfl,h0,h1,h6,h7,h8,hlo,hhi⟩
 by_cases hlt:i < j
 · obtain⟨k,hk⟩:∃ k,k=(i+j) / 2:=⟨_,rfl⟩
   have hkl:k < L.length:=by omega
   have w1:IntKind.i64.wrap ((i:Int)+(j:Int))=(i:Int)+(j:Int):=wrapOf (by omega) (by omega)
   have w2:IntKind.u64.wrap ((i:Int)+(j:Int))=(i:Int)+(j:Int):=wrap_u64 (by omega) (by omega)
   have w3:((i:Int)+(j:Int)).fdiv 2=(k:Int):=by rw[Int.fdiv_eq_ediv_of_nonneg _ (by omega),hk];omega
   have w4:IntKind.i64.wrap (k:Int)=(k:Int):=wrapOf (by omega) (by omega)
   have hlt':(i:Int) < (j:Int):=by omega
   simp[go_sem,h0,h1,h6,h7,h8,hlt,hlt',w1,w2,w3,w4,hkl]
   refine cpu (less_ac L[k] n) ?_
   by_cases hg:L[k] < n
   · simp[go_sem,h0,h1,h6,h7,h8,hlt,hg,yro hkl hlen]
     refine⟨j - (k+1),by omega,k+1,j,by omega,by omega,rfl,rfl,rfl,fun p x hp hx=>?_,fun p x hp hx=>by have:=hhi p x hp hx;omega⟩
     obtain⟨hp1,rfl⟩:=List.getElem?_eq_some_iff.1 hx
     by_cases hpk:p=k
     · subst hpk;exact hg
     · have:=List.pairwise_iff_getElem.1 hs p k hp1 hkl (by omega)
       omega
   · simp[go_sem,h0,h1,h6,h7,h8,hlt,hg]
     refine⟨k - i,by omega,i,k,by omega,by omega,rfl,rfl,rfl,hlo,fun p x hp hx=>?_⟩
     obtain⟨hp1,rfl⟩:=List.getElem?_eq_some_iff.1 hx
     by_cases hpk:p=k
     · subst hpk;omega
     · have:=List.pairwise_iff_getElem.1 hs k p hkl hp1 (by omega)
       omega
 · have hije:j=i:=by omega
   subst hije
   have hlt':¬ (j:Int) < (j:Int):=by omega
   have hidx:lowIdx L n=j:=yor _ L j hj (fun p x hp hx=>by simpa using hlo p x hp hx) (fun x hx=>by simpa using hhi j x (Nat.le_refl _) hx)
   by_cases hjl:j < L.length
   · by_cases he:L[j]=n
     · have hh:hasI L n=true:=hasI_iff.2 (he ▸ List.getElem_mem hjl)
       simp[go_sem,h0,h1,h6,h7,h8,hjl,he]
       refine PostR.ret ?_
       simp[go_sem,yh0,hidx,hh]
     · have hh:hasI L n=false:=by
        rw[← Bool.not_eq_true,hasI_iff]
        intro hmem
        obtain⟨p,hp,hpe⟩:=List.mem_iff_getElem.1 hmem
        rcases Nat.lt_trichotomy p j with h|h|h
        · have:=hlo p _ h (List.getElem?_eq_getElem hp);omega
        · subst h;exact he hpe
        · have h2:=List.pairwise_iff_getElem.1 hs j p hjl hp h
          have h3:=hhi j _ (Nat.le_refl _) (List.getElem?_eq_getElem hjl)
          omega
       simp[go_sem,h0,h1,h6,h7,h8,hjl,he]
       refine cpu (nan1_ac L[j]) ?_
       simp[go_sem,h0,h1,h6,h7,h8,hjl,he]
       refine PostR.ret ?_
       simp[go_sem,yh0,hidx,hh]
   · have hh:hasI L n=false:=by
      rw[← Bool.not_eq_true,hasI_iff]
      intro hmem
      obtain⟨p,hp,hpe⟩:=List.mem_iff_getElem.1 hmem
      have:=hlo p _ (by omega) (List.getElem?_eq_getElem hp);omega
     simp[go_sem,h0,h1,h6,h7,h8,hjl]
     refine PostR.ret ?_
     simp[go_sem,yh0,hidx,hh]
def zrq (a b:List Int):List Int:=(yjh a).filter fun n=>!hasI b n
theorem zke {α:Type} (p:α→Bool) (l:List α) (k:Nat) (h:k < l.length):(l.take (k+1)).filter p=if p l[k]=true then (l.take k).filter p++[l[k]] else (l.take k).filter p:=by
 rw[List.take_succ_eq_append_getElem h,List.filter_append]
 split
 · rename_i hp;simp[hp]
 · rename_i hp;simp[hp]
theorem yjj (a:List Int):(yjh a).length≤a.length:=by
 have:=zl3 a []
 simp only[List.length_nil]at this
 unfold yjh;omega
theorem znc (b:List Int) (n:Int):hasI (yjh b) n=hasI b n:=by
 apply Bool.eq_iff_iff.2
 rw[hasI_iff,hasI_iff]
 exact (yjk b).2 n
theorem zrr (a b:List Int) (ha:a.length≤100000) (hb:b.length≤100000):AC prog 149 [ints a,ints b] (ints (zrq a b)):=by
 refine AC.ob func149 ntmps149 results149 (zzj (zyr _) (zyr _)) (zxe _) fun w S'=>AWp.of_vc [] ?_
 have hal:=yjj a
 have hbs:=(yjk b).1
 have hhs:=znc b
 have hbl:=yjj b
 unfold zrq
 simp[go_sem]
 refine cpu (zsw b (by omega)) ?_
 rw[yjm]
 simp[go_sem]
 refine cpu (zsw a (by omega)) ?_
 rw[yjm]
 generalize yjh a=A at hal ⊢
 generalize yjh b=L at hbs hhs hbl ⊢
 have hm:A.length≤maxLen:=by unfold maxLen;omega
 simp[go_sem]
 refine AWp.ownNil 6 3 1 (by simp[go_sem]) ?_
 refine AWp.loop_vc [] (fun m s=>∃ q v:Nat,q≤A.length∧m=A.length - q∧s.σ 5=ints L∧s.σ 14=ints A∧s.σ 15=I A.length∧s.σ 16=I q∧s.σ 6=.ref 6 v∧s.ver 6=v∧s.h 6=.arr 3 1 (((A.take q).filter fun n=>!hasI b n).map I)) A.length ⟨0,1,by simp[go_sem]⟩ ?_
 rintro m s ⟨q,v,hq,rfl,h5,h14,h15,h16,h6,hv6,hh6⟩
 by_cases hlt:q < A.length
 · have hsu:=zke (fun n=>!hasI b n) A q hlt
   have hfl:((A.take q).filter fun n=>!hasI b n).length≤q:=by
    have:=List.length_filter_le (fun n=>!hasI b n) (A.take q)
    rw[List.length_take]at this;omega
   generalize (A.take q).filter (fun n=>!hasI b n)=X at hh6 hsu hfl
   simp[go_sem,h5,h14,h15,h16,h6,hv6,hh6,hlt]
   refine cpu (yh1 L A[q] hbs (by omega)) ?_
   unfold yh0
   rw[hhs]
   cases hg:hasI b A[q] with
   | true =>
    rw[hg]at hsu
    simp[go_sem,h5,h14,h15,h16,h6,hv6,hh6,hlt,yro hlt hm]
    exact⟨A.length - (q+1),by omega,q+1,by omega,rfl,rfl,by rw[hsu];simp⟩
   | false =>
    rw[hg]at hsu
    simp[go_sem,h5,h14,h15,h16,h6,hv6,hh6,hlt,yro hlt hm]
    exact⟨⟨by omega,by omega⟩,A.length - (q+1),by omega,q+1,by omega,rfl,rfl,by rw[hsu];simp[I]⟩
 · rw[List.take_of_length_le (by omega)]at hh6
   simp[go_sem,h5,h14,h15,h16,h6,hv6,hh6,hlt]
   refine PostR.retW [6] ?_ (.refl _)
   simp[go_sem,h6,hv6,hh6]
end Go.Proofs.YthjmjdleecmaeaaGreat
