/- Several texts of the proof in one: B37, Ft, E2, A0. No condition. -/
import Derived.Test.YthjmjdleecmaeaaGreatL22
import Derived.Lib.Overlaps
import Derived.Lib.AppendZerosOnto
import Derived.Laws.Externs
import Derived.Laws.CopyRow
import Derived.Laws.NewBlocks
import Derived.Shelf.RegionOpenPlain
import Derived.Laws.IdiomCopy
set_option linter.unusedSimpArgs false
set_option linter.unusedVariables false
set_option maxHeartbeats 4000000
set_option maxRecDepth 8000
namespace Go.Proofs.YthjmjdleecmaeaaGreat
open Go Go.Abs Go.RowKit Go.Proofs.Tryz
theorem yg7 {P:Program} (w:World) (dT sT ty elem:TypeId) (k g o dLen dCap:Nat) (a:Addr) (sLen sCap:Nat) (cur:Array Value) (t:TypeId) (cs:List Value)
 (hu:P.underlying dT=some (.slice elem)) (hs:(P.info? elem).map (·.size)=some k)
 (hg:w.heap[g]? = some (.cells cur t (0,0))) (hn:cs.length=Nat.min sLen dLen * k)
 (hsrc:∀ j v,cs[j]? = some v→w.cell? (a.add j)=some v) (hfit:o+cs.length≤cur.size) (h1:∀ v∈cs,v.oneCell'=true) :
 (Builtin.copy_ #[dT,sT] ty #[.slice (some ⟨g,o,none⟩) dLen dCap,.slice (some a) sLen sCap]).run P w =
  .ok (goInt (Nat.min sLen dLen)) (w.setRow g (cur.toList.take o++cs++cur.toList.drop (o+cs.length)).toArray):=by
 have hl:=run_loadCells_list (P:=P) w a cs hsrc
 have hst:=run_storeCells_at P g o t cs 0 cur w hg (by simpa using hfit) h1
 cases hq:P.info? elem with
 | none=>simp[hq]at hs
 | some i =>
  have hi:i.size=k:=by simpa [hq] using hs
  simp[Builtin.copy_,run_underlying hu,Builtin.lenOf,Builtin.firstCells,sizeOf,typeInfo,hq,hi,← hn,hl,hst]
theorem yrj {P:Program} (w:World) {ops:Array Oper} {rest:List Oper} {o:Oper} {a:Act} {Q:Exit→Act→World→Prop} (hgd:o.guard=none) (d s:Operand) (t t':TypeId)
 (ho:o.op=.call { callee:=.builtin .copy,args:=#[d,s],argTypes:=#[t,t'] }) (v u:Value) (hd:a.eval d=v) (hs:a.eval s=u) {v':Value} {w':World}
 (hr:(Builtin.copy_ #[t,t'] o.type #[v,u]).run P w=.ok v' w') (h:wpList P ops Q rest (a.put o.dst v') w'):wpList P ops Q (o::rest) a w :=
 wpList_plain hgd fun _ hK=>by
  unfold Oper.wp execOp
  simp only[ho,resolve,invoke,builtin,Sem.run_bind,Sem.run_pure,Result.andThen_ok,List.map_toArray,List.map_cons,List.map_nil,hd,hs,hr]
  exact hK _ _ h
theorem ykt {P:Program} {ops:Array Oper} {o:Oper} {a:Act} {w:World} {K:Act→World→Prop} {Q:Exit→Act→World→Prop} {E:Prop}
 (hg:o.guard=none) (d x:Operand) (dT sT:TypeId) (hop:o.op=Op.call { callee:=Callee.builtin Builtin.copy,args:=#[d,x],argTypes:=#[dT,sT] })
 (v u:Value) (hd:a.eval d=v) (hx:a.eval x=u) {v':Value} {w':World} (hr:(Builtin.copy_ #[dT,sT] o.type #[v,u]).run P w=.ok v' w') (hK:K (a.put o.dst v') w') :
 if Region.wanted o (yielded ops a.tmps)=true then Oper.wp P o a w K Q else E:=by
 have hw:Region.wanted o (yielded ops a.tmps)=true:=by simp[Region.wanted,hg]
 rw[if_pos hw]
 unfold Oper.wp
 simp[execOp,hop,resolve,invoke,builtin,hd,hx,hr,Result.andThen]
 exact hK
theorem ovl_no (w:World) (b vb o n1 c1:Nat) (vc:Nat) (cur cur2:Array Value) (hvb:vb≠b) (hcur:cur.size≠0)
 (hb:w.heap[b]? = some (.cells cur 45 (0,0))) (hv:w.heap[vb]? = some (.cells cur2 45 (0,0))) :
 (callFunc 77 #[.slice (some ⟨vb,0,none⟩) 1 vc,.slice (some ⟨b,o,none⟩) n1 c1]).run prog w=.ok (.value (.bool false)) w:=by
 rw[run_callFunc_extern func77 (by kernel_rfl) (by kernel_rfl) (by kernel_rfl) (e:=Extern.SlicesOverlaps.overlaps #[22,22] #[4]) (by kernel_rfl),
  Lib.run_overlaps_apart w 22 4 45 (by kernel_rfl) 29 (fun w=>by kernel_rfl) ⟨vb,0,none⟩ ⟨b,o,none⟩ 1 vc n1 c1 hvb 45 45 cur2.size cur.size
   (by simp[World.shape?,hv]) (by simp[World.shape?,hb]) hcur (by simp[World.frozen?,hv]) (by simp[World.frozen?,hv])]
 rfl
theorem zii {α:Type} (l:List α) (n i:Nat) (h:n≤l.length):((l.take n).drop i).length=n - i:=by
 rw[List.length_drop,List.length_take,Nat.min_eq_left h]
set_option maxRecDepth 100000 in
theorem zok (b n c i vb vc:Nat) (cur cur2:Array Value) (w:World) (hi:i < n) (hroom:n+1≤c) (hc63:c≤9223372036854775807) (hvb:vb≠b)
 (hb:w.heap[b]? = some (.cells cur 45 (0,0))) (hv:w.heap[vb]? = some (.cells cur2 45 (0,0))) (hcs:c * 29≤cur.size) (hvs:29≤cur2.size)
 (h1c:∀ v∈cur.toList.take (n * 29),v.oneCell'=true) (h1v:∀ v∈cur2.toList.take 29,v.oneCell'=true) :
 Calls prog 46 #[.slice (some ⟨b,0,none⟩) n c,.int .i64 i,.slice (some ⟨vb,0,none⟩) 1 vc] w fun e w' =>
  e=.returned (.slice (some ⟨b,0,none⟩) (n+1) c)∧∃ R:Array Value,w'=w.drew.setRow b R∧R.size=cur.size∧R.toList.take ((n+1) * 29)=cur.toList.take (i * 29)++cur2.toList.take 29++(cur.toList.take (n * 29)).drop (i * 29):=by
 have hov:=fun n1 c1=>ovl_no w b vb ((i+1) * 29) n1 c1 vc cur cur2 hvb (by omega) hb hv
 have hu:prog.underlying 22=some (.slice 45):=by kernel_rfl
 have hs:(prog.info? 45).map (·.size)=some 29:=by kernel_rfl
 have hn29:n * 29≤cur.toList.length:=by simp;omega
 obtain⟨cs,hcsd⟩:∃ cs,(cur.toList.take (n * 29)).drop (i * 29)=cs:=⟨_,rfl⟩
 obtain⟨ns,hns⟩:∃ ns,cur2.toList.take 29=ns:=⟨_,rfl⟩
 have hcl:cs.length=(n - i) * 29:=by rw[← hcsd,zii _ _ _ hn29];omega
 have hnl:ns.length=29:=by rw[← hns,List.length_take];simp;omega
 have h1cs:∀ v∈cs,v.oneCell'=true:=fun v hv=>h1c v (by rw[← hcsd]at hv;exact List.mem_of_mem_drop hv)
 rw[hcsd,hns]
 rw[hns]at h1v
 have hcp1:∀ ty dc sc,(Builtin.copy_ #[22,22] ty #[.slice (some ⟨b,(i+1) * 29,none⟩) (n - i) dc,.slice (some ⟨b,i * 29,none⟩) (n+1 - i) sc]).run prog w.drew=_:=fun ty dc sc =>
  yg7 w.drew _ _ ty 45 29 b ((i+1) * 29) (n - i) dc ⟨b,i * 29,none⟩ (n+1 - i) sc cur 45 cs hu hs hb
   (by rw[hcl,show Nat.min (n+1 - i) (n - i)=n - i from Nat.min_eq_right (by omega)])
   (fun j v hj=>by
    rw[Addr.add_lit]
    rw[← hcsd,List.getElem?_drop,List.getElem?_take]at hj
    split at hj
    · show w.cell? _=_
      rw[cell_of_row _ _ _ _ _ _ hb,← Array.getElem?_toList];exact hj
    · cases hj) (by rw[hcl];omega) h1cs
 obtain⟨R1,hR1⟩:∃ R1:Array Value,R1=(cur.toList.take ((i+1) * 29)++cs++cur.toList.drop ((i+1) * 29+cs.length)).toArray:=⟨_,rfl⟩
 have hR1l:R1.size=cur.size:=by rw[hR1];simp[hcl];omega
 rw[← hR1]at hcp1
 have hb1:(w.drew.setRow b R1).heap[b]? = some (.cells R1 45 (0,0)):=setRow_heap w.drew b cur R1 _ _ hb
 have hv1:(w.drew.setRow b R1).heap[vb]? = some (.cells cur2 45 (0,0)):=by rw[setRow_other w.drew b vb _ hvb];exact hv
 have hcp2:∀ ty dc,(Builtin.copy_ #[22,22] ty #[.slice (some ⟨b,i * 29,none⟩) (n+1 - i) dc,.slice (some ⟨vb,0,none⟩) 1 vc]).run prog (w.drew.setRow b R1)=_:=fun ty dc =>
  yg7 (w.drew.setRow b R1) _ _ ty 45 29 b (i * 29) (n+1 - i) dc ⟨vb,0,none⟩ 1 vc R1 45 ns hu hs hb1
   (by rw[hnl,show Nat.min 1 (n+1 - i)=1 from Nat.min_eq_left (by omega)])
   (fun j v hj=>by
    rw[Addr.add_lit,cell_of_row _ _ _ _ _ _ hv1]
    rw[← hns,List.getElem?_take]at hj
    split at hj
    · rw[← Array.getElem?_toList];simpa using hj
    · cases hj) (by rw[hnl,hR1l];omega) h1v
 rw[setRow_setRow]at hcp2
 obtain⟨R2,hR2⟩:∃ R2:Array Value,R2=(R1.toList.take (i * 29)++ns++R1.toList.drop (i * 29+ns.length)).toArray:=⟨_,rfl⟩
 rw[← hR2]at hcp2
 have hR2l:R2.size=cur.size:=by rw[hR2];simp[hnl,hR1l];omega
 have hR2t:R2.toList.take ((n+1) * 29)=cur.toList.take (i * 29)++ns++cs:=by
  have hcl':cs.length=(n+1) * 29 - (i+1) * 29:=by omega
  have hA:(cur.toList.take ((i+1) * 29)).length=(i+1) * 29:=by rw[List.length_take,Nat.min_eq_left];simp;omega
  have hR1L:R1.toList=cur.toList.take ((i+1) * 29)++(cs++cur.toList.drop ((i+1) * 29+cs.length)):=by rw[hR1];simp
  have h1:R1.toList.take (i * 29)=cur.toList.take (i * 29):=by
   rw[hR1L,List.take_append_of_le_length (by omega),List.take_take,Nat.min_eq_left (by omega)]
  have h2:R1.toList.drop (i * 29+ns.length)=cs++cur.toList.drop ((i+1) * 29+cs.length):=by
   rw[hR1L,show i * 29+ns.length=(cur.toList.take ((i+1) * 29)).length by omega,List.drop_left]
  rw[hR2,h1,h2]
  show (cur.toList.take (i * 29)++ns++(cs++_)).take _=_
  rw[← List.append_assoc,show (n+1) * 29=(cur.toList.take (i * 29)++ns++cs).length by
   simp only[List.length_append,hnl,hcl,List.length_take,Array.length_toList];rw[Nat.min_eq_left (by omega)];omega,List.take_left]
 clear hR1 hR2 hcsd hns
 have hbi:(0:Int)≤(i:Int)+1:=by omega
 have hbt:((i:Int)+1).toNat=i+1:=by omega
 have hbw:IntKind.i64.wrap ((i:Int)+1)=(i:Int)+1:=by rw[IntKind.wrap_i64];omega
 have hbn:(i:Int)≤(n:Int):=by omega
 have hbn1:(i:Int)≤(n:Int)+1:=by omega
 have hbc1:¬ (c=i+1):=by omega
 have hbc:¬ (c=i):=by omega
 have mixed:prog.follows Departure.mixedOrders=true:=by kernel_rfl
 go_enter func46,ntmps46
 go_wp2_with (simp only[hov])
 go_region_law_o (refine ykt rfl _ _ 22 22 rfl _ _ (by simp[Act.eval,Act.put]) (by simp[Act.eval,Act.put]) (hcp1 _ _ _) ?_)
 go_wp2_with (at_builtin;refine yrj _ rfl _ _ 22 22 rfl _ _ rfl rfl (hcp2 _ _) ?_)
 go_ret
 exact⟨rfl,R2,rfl,hR2l,hR2t⟩
set_option maxRecDepth 100000 in
theorem ins_grow (b n c i vb vc:Nat) (cur cur2:Array Value) (w:World) (hi:i < n) (hnc:n≤c) (hroom:c < n+1) (hbig:n≤100000) (hvb:vb≠b)
 (hb:w.heap[b]? = some (.cells cur 45 (0,0))) (hv:w.heap[vb]? = some (.cells cur2 45 (0,0))) (hcs:c * 29≤cur.size) (hvs:29≤cur2.size)
 (h1c:∀ v∈cur.toList.take (n * 29),v.oneCell'=true) (h1v:∀ v∈cur2.toList.take 29,v.oneCell'=true) :
 Calls prog 46 #[.slice (some ⟨b,0,none⟩) n c,.int .i64 i,.slice (some ⟨vb,0,none⟩) 1 vc] w fun e w' =>
  ∃ (q:Nat) (R:Array Value),e=.returned (.slice (some ⟨w.heap.size,0,none⟩) (n+1) q)∧n+1≤q∧q≤maxLen∧w.grownBy w' none∧w'.heap[w.heap.size]? = some (.cells R 45 (0,0))∧q * 29≤R.size ∧
   R.toList.take ((n+1) * 29)=cur.toList.take (i * 29)++cur2.toList.take 29++(cur.toList.take (n * 29)).drop (i * 29):=by
 have hu:prog.underlying 22=some (.slice 45):=by kernel_rfl
 have hui:prog.underlying 3=some (.int .i64):=by kernel_rfl
 have hs:(prog.info? 45).map (·.size)=some 29:=by kernel_rfl
 have hs1:tSize prog 45=some 29:=by simp[go_sem]
 obtain⟨by',hby'⟩:∃ y,ylk prog 45=some y:=⟨_,by simp[go_sem];rfl⟩
 have hbyl:by'≤10000:=by simp[go_sem]at hby';omega
 have hzz:(tZero prog 45).map (·.cells.size)=some 29:=by simp[go_sem]
 obtain⟨inf,hinf,hsz⟩:=Option.map_eq_some_iff.1 hs
 have hby:inf.bytes=by':=by have:=hby';unfold ylk at this;simpa [hinf] using this
 obtain⟨z,hz0,hzs⟩:=Option.map_eq_some_iff.1 hzz
 have hiz:inf.zero=some z:=by unfold tZero at hz0;simpa [hinf] using hz0
 have hn29:n * 29≤cur.toList.length:=by simp;omega
 obtain⟨cs,hcsd⟩:∃ cs,(cur.toList.take (n * 29)).drop (i * 29)=cs:=⟨_,rfl⟩
 obtain⟨ns,hns⟩:∃ ns,cur2.toList.take 29=ns:=⟨_,rfl⟩
 obtain⟨hd,hhd⟩:∃ hd,cur.toList.take (i * 29)=hd:=⟨_,rfl⟩
 have hcl:cs.length=(n - i) * 29:=by rw[← hcsd,zii _ _ _ hn29];omega
 have hnl:ns.length=29:=by rw[← hns,List.length_take];simp;omega
 have hhl:hd.length=i * 29:=by rw[← hhd,List.length_take,Nat.min_eq_left];simp;omega
 have h1cs:∀ v∈cs,v.oneCell'=true:=fun v hv=>h1c v (by rw[← hcsd]at hv;exact List.mem_of_mem_drop hv)
 rw[hcsd,hns,hhd]
 rw[hns]at h1v
 have hbw:b < w.heap.size:=(Array.getElem?_eq_some_iff.1 hb).1
 have hvw:vb < w.heap.size:=(Array.getElem?_eq_some_iff.1 hv).1
 have hold:(Builtin.firstCells inf.size i (.slice (some ⟨b,0,none⟩) i c)).run prog w.drew=.ok hd.toArray w.drew:=by
  rw[hsz]
  exact run_firstCells_some w.drew 29 i ⟨b,0,none⟩ i c hd hhl (fun j v hj=>by
   rw[Addr.add_lit]
   rw[← hhd,List.getElem?_take]at hj
   split at hj
   · show w.cell? _=_
     rw[cell_of_row _ _ _ _ _ _ hb,← Array.getElem?_toList];simpa using hj
   · cases hj)
 have hik:i+(n+1 - i)=n+1:=by omega
 have hkk:(n:Int)+1 - (i:Int)=((n+1 - i:Nat):Int):=by omega
 have hnx:Builtin.nextslicecap (n+1) c * inf.bytes≤281474976710656:=growslice_fits hroom (by
  rw[hby]
  exact Nat.le_trans (Nat.mul_le_mul (show n+1≤100001 by omega) hbyl) (by omega))
 have hrz:∀ ty,(Builtin.append_ #[22,3] ty #[.slice (some ⟨b,0,none⟩) i c,.int .i64 ((n:Int)+1 - (i:Int))]).run prog w =
  .ok (.slice (some ⟨w.heap.size,0,none⟩) (n+1) (grownCap w (n+1) c 45)) (w.drew.alloc (.cells (hd.toArray++Builtin.zeroCells z.cells (n+1 - i)++Builtin.zeroCells z.cells (grownCap w (n+1) c 45 - (n+1))) 45)):=fun ty=>by
  have h:=Lib.run_append_grow_zeros w 22 3 ty 45 inf z .i64 .i64 hu hui hinf hiz (some ⟨b,0,none⟩) i c hd hold (n+1 - i) (by omega) (by rw[hsz];omega) (by omega) (by omega)
   (by rw[hby];exact Nat.le_trans (Nat.mul_le_mul (show n+1 - i≤100001 by omega) hbyl) (by omega)) (by rw[hik];exact hnx)
  rw[hik]at h
  rw[hkk]
  exact h
 obtain⟨q,hq⟩:∃ q,q=grownCap w (n+1) c 45:=⟨_,rfl⟩
 obtain⟨ROW,hROW⟩:∃ ROW:Array Value,ROW=hd.toArray++Builtin.zeroCells z.cells (n+1 - i)++Builtin.zeroCells z.cells (q - (n+1)):=⟨_,rfl⟩
 have hqn:n+1≤q:=by rw[hq];exact grownCap_ge w _ _ _
 have hqm:q≤maxLen:=by rw[hq];exact grownCap_le_maxLen w (n+1) c _ (by unfold maxLen;omega)
 have hRl:ROW.size=q * 29:=by
  rw[hROW];simp only[Array.size_append,List.size_toArray,size_zeroCells,hzs,hhl];omega
 have hRt:ROW.toList.take (i * 29)=hd:=by
  rw[hROW];simp only[Array.toList_append,List.append_assoc];rw[← hhl,List.take_left]
 rw[← hq,← hROW]at hrz
 obtain⟨N,hN⟩:∃ N,N=w.heap.size:=⟨_,rfl⟩
 rw[← hN]at hrz
 have hcpA:∀ (W:World),W.heap=(w.alloc (.cells ROW 45)).heap→∀ ty dc,(Builtin.copy_ #[22,22] ty #[.slice (some ⟨N,i * 29,none⟩) (n+1 - i) dc,.slice (some ⟨vb,0,none⟩) 1 vc]).run prog W=_:=fun W hW ty dc =>
  yg7 W _ _ ty 45 29 N (i * 29) (n+1 - i) dc ⟨vb,0,none⟩ 1 vc ROW 45 ns hu hs (by rw[hW,hN];exact heap_alloc_new w _)
   (by rw[hnl,show Nat.min 1 (n+1 - i)=1 from Nat.min_eq_left (by omega)])
   (fun j v hj=>by
    have hv1:W.heap[vb]? = some (.cells cur2 45 (0,0)):=by rw[hW,heap_alloc_old w _ hvw];exact hv
    rw[Addr.add_lit,cell_of_row _ _ _ _ _ _ hv1]
    rw[← hns,List.getElem?_take]at hj
    split at hj
    · rw[← Array.getElem?_toList];simpa using hj
    · cases hj) (by rw[hnl,hRl];omega) h1v
 obtain⟨R1,hR1⟩:∃ R1:Array Value,R1=(ROW.toList.take (i * 29)++ns++ROW.toList.drop (i * 29+ns.length)).toArray:=⟨_,rfl⟩
 rw[← hR1]at hcpA
 have hR1l:R1.size=q * 29:=by rw[hR1];simp[hnl,hRl];omega
 have hR1t:R1.toList.take ((i+1) * 29)=hd++ns:=by
  rw[hR1,hRt]
  show (hd++ns++_).take _=_
  rw[show (i+1) * 29=(hd++ns).length by rw[List.length_append,hhl,hnl];omega,List.take_left]
 have hcpB:∀ (W W0:World),W.heap=(W0.setRow N R1).heap→W0.heap=(w.alloc (.cells ROW 45)).heap→∀ ty dc sc,(Builtin.copy_ #[22,22] ty #[.slice (some ⟨N,(i+1) * 29,none⟩) (n - i) dc,.slice (some ⟨b,i * 29,none⟩) (n - i) sc]).run prog W=_:=fun W W0 hW hW0 ty dc sc =>
  yg7 W _ _ ty 45 29 N ((i+1) * 29) (n - i) dc ⟨b,i * 29,none⟩ (n - i) sc R1 45 cs hu hs
   (by rw[hW];exact setRow_heap W0 N ROW R1 _ _ (by rw[hW0,hN];exact heap_alloc_new w _))
   (by rw[hcl,show Nat.min (n - i) (n - i)=n - i from Nat.min_self _])
   (fun j v hj=>by
    have hb1:W.heap[b]? = some (.cells cur 45 (0,0)):=by rw[hW,setRow_other W0 N b _ (by omega),hW0,heap_alloc_old w _ hbw];exact hb
    rw[Addr.add_lit,cell_of_row _ _ _ _ _ _ hb1]
    rw[← hcsd,List.getElem?_drop,List.getElem?_take]at hj
    split at hj
    · rw[← Array.getElem?_toList];exact hj
    · cases hj) (by rw[hcl,hR1l];omega) h1cs
 obtain⟨R2,hR2⟩:∃ R2:Array Value,R2=(R1.toList.take ((i+1) * 29)++cs++R1.toList.drop ((i+1) * 29+cs.length)).toArray:=⟨_,rfl⟩
 rw[← hR2]at hcpB
 have hR2l:R2.size=q * 29:=by rw[hR2];simp[hcl,hR1l];omega
 have hR2t:R2.toList.take ((n+1) * 29)=hd++ns++cs:=by
  rw[hR2,hR1t]
  show (hd++ns++cs++_).take _=_
  rw[show (n+1) * 29=(hd++ns++cs).length by simp only[List.length_append,hhl,hnl,hcl];omega,List.take_left]
 clear hR1 hR2 hcsd hns hhd hROW hRt hR1t hold hkk hik hnx hq
 subst hN
 have hbi:(0:Int)≤(i:Int)+1:=by omega
 have hbt:((i:Int)+1).toNat=i+1:=by omega
 have hbw1:IntKind.i64.wrap ((i:Int)+1)=(i:Int)+1:=by rw[IntKind.wrap_i64];omega
 have hbn:(i:Int)≤(n:Int):=by omega
 have hbc1:¬ (q=i+1):=by unfold maxLen at hqm;omega
 have hbc:¬ (q=i):=by omega
 have hcc:¬ (c=i):=by omega
 have hE:((w.alloc (.cells ROW 45)).drew).heap=(w.alloc (.cells ROW 45)).heap:=rfl
 have hz3:(c:Int) < (n:Int)+1:=by omega
 have mixed:prog.follows Departure.mixedOrders=true:=by kernel_rfl
 go_enter func46,ntmps46
 go_wp2_with (first
  | (at_builtin;refine Lib.wpList_append_run _ rfl _ _ _ _ rfl _ _ rfl rfl _ _ (hrz _) ?_)
  | (at_builtin;(refine yrj _ rfl _ _ 22 22 rfl _ _ rfl rfl (hcpA _ hE _ _) ?_)))
 go_region_law_o (refine ykt rfl _ _ 22 22 rfl (.slice (some ⟨w.heap.size,(i+1) * 29,none⟩) (n - i) (q - (i+1))) (.slice (some ⟨b,i * 29,none⟩) (n - i) (c - i)) (by simp[Act.eval,Act.put];try omega) (by simp[Act.eval,Act.put]) (hcpB (((w.alloc (.cells ROW 45)).drew.setRow w.heap.size R1).drew) ((w.alloc (.cells ROW 45)).drew) rfl hE _ _ _) ?_)
 go_wp2
 go_ret
 refine⟨q,R2,rfl,hqn,hqm,⟨rfl,rfl,rfl,by simp,fun k hk _=>?_⟩,?_,by omega,hR2t⟩
 · show ((((w.alloc (.cells ROW 45)).drew.setRow w.heap.size R1).drew).setRow w.heap.size R2).heap[k]? = _
   rw[setRow_other _ _ k _ (by omega)]
   show ((w.alloc (.cells ROW 45)).drew.setRow w.heap.size R1).heap[k]? = _
   rw[setRow_other _ _ k _ (by omega)]
   exact heap_alloc_old w _ hk
 · exact setRow_heap _ _ R1 R2 _ _ (setRow_heap ((w.alloc (.cells ROW 45)).drew) _ ROW R1 _ _ (heap_alloc_new w _))
end Go.Proofs.YthjmjdleecmaeaaGreat
namespace Go.Abs
open Go Go.RowKit
section
variable {G:Ctx} {ops:Array Oper} {md:Region.Mode} {own X Y early:List Nat}
def wtF (md:Region.Mode) (ops:Array Oper) (listed:Array Bool) (i:Nat):Nat→Nat→Bool
 | 0,_=>false
 | f+1,j=>match ops[j]? with
  | some oj=>(j != i&&!listed.getD j true)&&oj.after.any (fun e=>Region.binds md e&&(e.on==i||wtF md ops listed i f e.on))
  | none=>false
theorem yrp {md:Region.Mode} {ops:Array Oper} {listed:Array Bool} {i:Nat}:∀ (f:Nat) {j:Nat},wtF md ops listed i f j=true→wtF md ops listed i (f+1) j=true
 | 0,_,h=>by cases h
 | f+1,j,h=>by
  unfold wtF at h ⊢
  split at h
  · rename_i oj hj
    simp only[Bool.and_eq_true]at h ⊢
    obtain⟨h1,h2⟩:=h
    refine⟨h1,?_⟩
    obtain⟨e,he,hb⟩:=Array.any_eq_true'.1 h2
    simp only[Bool.and_eq_true,Bool.or_eq_true]at hb
    refine Array.any_eq_true'.2 ⟨e,he,?_⟩
    simp only[Bool.and_eq_true,Bool.or_eq_true]
    exact⟨hb.1,hb.2.elim .inl fun h=>.inr (yrp f h)⟩
  · cases h
def wtD (md:Region.Mode) (ops:Array Oper) (listed:Array Bool) (i j:Nat):Bool:=wtF md ops listed i 8 j
theorem wtD_spec {md:Region.Mode} {ops:Array Oper} {listed:Array Bool} {i j:Nat} (h:wtD md ops listed i j=true) :
 j≠i∧listed.getD j true=false∧∃ oj,ops[j]? = some oj∧∃ e∈oj.after,Region.binds md e=true∧(e.on=i∨wtD md ops listed i e.on=true):=by
 unfold wtD at h
 unfold wtF at h
 split at h
 · rename_i oj hj
   simp only[Bool.and_eq_true,bne_iff_ne,Bool.not_eq_true']at h
   obtain⟨⟨h1,h2⟩,h3⟩:=h
   obtain⟨e,he,hb⟩:=Array.any_eq_true'.1 h3
   simp only[Bool.and_eq_true,Bool.or_eq_true,beq_iff_eq]at hb
   refine⟨h1,h2,oj,hj,e,he,hb.1,?_⟩
   rcases hb.2 with h4|h4
   · exact .inl h4
   · exact .inr (yrp _ h4)
 · cases h
def zf6 (md:Region.Mode) (ops:Array Oper) (own early:List Nat):List Nat→Array Bool→Bool
 | [],listed=>(Region.ready md ops listed).isEmpty
 | i::l,listed=>(match ops[i]? with
  | none=>false
  | some o=>match kindO own o with
   | 0=>(Region.ready md ops listed).contains i&&Region.free md ops listed i&&(!zor early o||(List.range ops.size).all fun j=>j==i||listed.getD j true||wtD md ops listed i j||match ops[j]? with
    | some oj=>kindO own oj != 2
    | none=>true)
   | 1=>(Region.ready md ops listed).contains i&&Region.free md ops listed i&&(List.range ops.size).all fun j=>j==i||listed.getD j true||match ops[j]? with
    | some oj=>oj.after.any (fun e=>Region.binds md e&&e.on==i)||kindO own oj != 2
    | none=>true
   | _=>Region.ready md ops listed==[i])&&zf6 md ops own early l (listed.setIfInBounds i true)
theorem zdl (hinj:∀ d d',d≠d'→G.ids d≠G.ids d') {Q:St→Prop}:∀ (l:List Nat) (listed:Array Bool) (st:St),zf6 md ops own early l listed=true→vcAny G own X Y early ops Q (l.filterMap fun i=>ops[i]?) st →
 anyG G own X Y md ops (fun listed' st'=>Region.ready md ops listed'=[]∧Q st') l.length listed st
 | [],listed,st,hB,h=>⟨by simpa [zf6] using hB,h⟩
 | i::l,listed,st,hB,h=>by
  unfold zf6 at hB
  cases hi:ops[i]? with
  | none=>rw[hi]at hB;simp at hB
  | some o =>
   rw[List.filterMap_cons,hi]at h
   simp only at h
   unfold vcAny at h
   rw[hi]at hB
   simp only at hB
   have hdone:∀ (listed':Array Bool) (st':St),(Region.ready md ops listed'=[]∧Q st')→Region.ready md ops listed'=[]:=fun _ _ h=>h.1
   rcases zpr own o with hk|hk|hk
   · simp only[hk]at h hB
     simp only[Bool.and_eq_true]at hB
     obtain⟨⟨⟨hr,hf⟩,hall⟩,hB'⟩:=hB
     obtain⟨hl,hv⟩:=h
     obtain⟨r,hy,hK⟩:=ypx hv
     refine zdj (zor early o) (fun j=>zor early o&&wtD md ops listed i j) hi hy.1 hk hdone l.length listed st (fun j oj hj hne hun hw hno=>⟨Region.free_spec hi hf j oj hj hne hun hno,fun hE=>?_⟩) (fun j hj=>by
      simp only[Bool.and_eq_true]at hj
      obtain⟨w1,w2,oj,w3,e,w4,w5,w6⟩:=wtD_spec hj.2
      refine⟨w1,w2,oj,w3,e,w4,w5,?_⟩
      rcases w6 with w6|w6
      · exact .inl w6
      · exact .inr (by simp only[Bool.and_eq_true];exact⟨hj.1,w6⟩)) (by simpa using hr) hy (zp5 hl) (fun hE=>by rw[hE]at hl;simpa using hl) (zdl hinj l _ _ hB' hK)
     rw[hE]at hall hw
     simp only[Bool.not_true,Bool.false_or]at hall
     simp only[Bool.true_and]at hw
     have h1:=List.all_eq_true.1 hall j (List.mem_range.2 (Array.getElem?_eq_some_iff.1 hj).1)
     simp only[hj,Bool.or_eq_true,beq_iff_eq,hne,false_or,hun,Bool.false_eq_true,bne_iff_ne,hw]at h1
     exact h1
   · simp only[hk]at h hB
     simp only[Bool.and_eq_true]at hB
     obtain⟨⟨⟨hr,hf⟩,hall⟩,hB'⟩:=hB
     obtain⟨hg,hdo,h⟩:=h
     split at h
     case h_2=>cases h
     rename_i t d hop hd
     obtain⟨hid,z,hz,hzo,hK⟩:=h
     refine zdi hinj hi hdo hk hg hop hd hid hz hzo hdone l.length listed st (fun j oj hj hne hun hno=>⟨Region.free_spec hi hf j oj hj hne hun hno,?_⟩) (by simpa using hr) (zdl hinj l _ _ hB' hK)
     have h1:=List.all_eq_true.1 hall j (List.mem_range.2 (Array.getElem?_eq_some_iff.1 hj).1)
     simp only[hj,Bool.or_eq_true,beq_iff_eq,hne,false_or,hun,Bool.false_eq_true,bne_iff_ne]at h1
     rcases h1 with h1|h1
     · obtain⟨e,he,hb⟩:=Array.any_eq_true'.1 h1
       simp only[Bool.and_eq_true,beq_iff_eq]at hb
       exact absurd hb.2 (hno e he hb.1)
     · exact h1
   · simp only[hk]at h hB
     simp only[Bool.and_eq_true,beq_iff_eq]at hB
     obtain⟨hr,hB'⟩:=hB
     obtain⟨hg,hdo,h⟩:=h
     obtain⟨ver',h',u,hto,hag,hK⟩:=zvr hdo h
     refine⟨fun h0=>(by rw[hr]at h0;cases h0),fun j hj=>?_⟩
     rw[hr,List.mem_singleton]at hj
     subst hj
     exact⟨o,hi,hdo,.inr (.inr ⟨hk,hg,ver',h',u,hto,hag,zdl hinj l _ _ hB' hK⟩)⟩
theorem AWp.drawDeep {id:Nat} {l:List Oper} {Q:Exit→St→Prop} {st:St} (own X Y early:List Nat) (order:List Nat) (hm:G.P.follows .mixedOrders=true) (hB:(order.length==l.length&&zf6 .any l.toArray own early order (Array.replicate l.toArray.size false))=true)
 (hinj:∀ d d',d≠d'→G.ids d≠G.ids d') {l':List Oper} (hl:(order.filterMap fun i=>l[i]?)=l')
 (h:vcAny G own X Y early l.toArray (Q .normal) l' st):AWp G (.region id l.toArray true) Q st:=fun E a hr=>by
 subst hl
 simp only[Bool.and_eq_true,beq_iff_eq]at hB
 refine wpIn_region_any hm ?_
 have H:=zdl hinj (Q:=Q .normal) order (Array.replicate l.toArray.size false) st hB.2 (by simpa using h)
 have:=yrg (G:=G) (Q':=fun e a' w'=>∃ st' E',E'.w=w'∧Rel G st' E' a'∧Q e st') (fun listed st' E' a' hr' hL=>⟨hL.1,st',E',rfl,hr',hL.2⟩) _ _ _ _ _ hr.drew H
 rw[hB.1]at this
 simpa using this
end
end Go.Abs
namespace Go.Proofs.YthjmjdleecmaeaaGreat
open Go Go.Abs
theorem evc_ct (x:Evt):((evc x).drop 10).take 16=ctc x.content:=rfl
attribute [go_sem] evc_ct lvsc ctc lvc klc
structure Mod (e:Evt):Prop where
 a4:e.content.levels.users.length≤10000000
 a5:e.content.levels.kinds.length≤10000000
end Go.Proofs.YthjmjdleecmaeaaGreat
