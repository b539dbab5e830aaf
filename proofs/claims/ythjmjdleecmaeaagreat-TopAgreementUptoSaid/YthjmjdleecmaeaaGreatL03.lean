/- Several texts of the proof in one: Ff. No condition. -/
import Derived.Test.YthjmjdleecmaeaaGreatL02
import Derived.Lib.AppendStr
set_option linter.unusedSimpArgs false
set_option linter.unusedVariables false
set_option maxHeartbeats 4000000
set_option maxRecDepth 8000
namespace Go.Abs
open Go Go.RowKit
theorem zvt {w:World} {b b':Nat} {e:TypeId} {size:Nat} {v:Value} {n:Nat} {xs:List Value} (h:w.ownsRowW b e size v n xs) (hb:b'≤b):w.ownsRowW b' e size v n xs:=by
 refine⟨h.1,?_⟩
 rcases h.2 with hn|⟨g,cap,cur,hv,hg,r⟩
 · exact .inl hn
 · exact .inr ⟨g,cap,cur,hv,Nat.le_trans hb hg,r⟩
theorem yg1 {P:Program} (w:World) (base:Nat) (t ty e:TypeId) (i:TypeInfo) (size:Nat) (ht:P.underlying t=some (.slice e)) (hi:P.info? e=some i)
 (v:Value) (n:Nat) (xs:List Value) (hown:w.ownsRowW base e size v n xs):(Builtin.append_ #[t,t] ty #[v,.slice none 0 0]).run P w=.ok v w:=by
 rcases hown.2 with ⟨rfl,rfl⟩|⟨g,cap,cur,rfl,_,_,hnc,_⟩
 · simp[Builtin.append_,run_underlying ht,sizeOf,typeInfo,hi,Builtin.lenOf,Builtin.firstCells]
 · simp[Builtin.append_,run_underlying ht,sizeOf,typeInfo,hi,Builtin.lenOf,Builtin.firstCells,hnc,storeCells]
theorem yg2 {P:Program} (w:World) (base:Nat) (t ty e:TypeId) (i:TypeInfo) (z:Value) (size bytes:Nat) (ht:P.underlying t=some (.slice e)) (hi:P.info? e=some i) (hz:i.zero=some z)
 (hsize:i.size=size) (hby:i.bytes=bytes) (hzs:z.cells.size=size) (hsz:0 < size)
 (v:Value) (n:Nat) (xs:List Value) (hown:w.ownsRowW base e size v n xs)
 (a:Addr) (m c:Nat) (news:List Value) (hl:news.length=m * size) (hnews:∀ j u,news[j]? = some u→w.cell? (a.add j)=some u) (h1:∀ u∈news,u.oneCell'=true)
 (h63:n+m≤maxLen) (hbytes:(n+m) * bytes≤140737488355328) (hbase:base≤w.heap.size) :
 ∃ v' w',(Builtin.append_ #[t,t] ty #[v,.slice (some a) m c]).run P w=.ok v' w'∧w'.ownsRowW base e size v' (n+m) (xs++news)∧w.grownBy w' v.ownBlock ∧
  (∀ b,v'.ownBlock=some b→v.ownBlock=some b∨w.heap.size≤b):=by
 rcases hown.2 with ⟨rfl,rfl⟩|⟨g,cap,cur,rfl,hbg,hg,hnc,hcm,hcs,htake⟩
 · have hx:xs=[]:=List.eq_nil_of_length_eq_zero (by simpa using hown.1)
   subst hx
   obtain⟨v',w',hr,ho,hgr,_⟩:=run_append_own w w.heap.size t ty e i z size bytes ht hi hz hsize hby hzs hsz (.slice none 0 0) 0 [] (World.ownsRow_nil _ _ _ _) a m c news hl hnews h1 h63 hbytes (Nat.le_refl _)
   exact⟨v',w',hr,zvt ho.w hbase,hgr,fun b hb=>.inr (ho.lt b hb).1⟩
 · by_cases hroom:n+m≤cap
   · subst hsize
     have hfit:n * i.size+news.length≤cur.size:=by
      have:(n+m) * i.size≤cap * i.size:=Nat.mul_le_mul_right _ hroom
      rw[Nat.add_mul]at this
      omega
     have hr:=run_append_room (P:=P) w t ty e i ht hi g n cap cur hg a m c news hl hnews h1 hroom hfit
     have hlen:(xs++news).length=(n+m) * i.size:=by rw[List.length_append,hown.1,hl,Nat.add_mul]
     refine⟨_,_,hr,⟨hlen,.inr ⟨g,cap,_,rfl,hbg,setRow_heap w g cur _ e _ hg,hroom,hcm,?_,?_⟩⟩,⟨rfl,rfl,rfl,by simp,fun k _ hk=>setRow_other w g k _ (fun e=>hk (by simp[Value.ownBlock,e]))⟩,fun b hb=>.inl hb⟩
     · simp only[List.size_toArray,List.length_append,List.length_take,List.length_drop,Array.length_toList]
       omega
     · rw[htake,← hlen,List.take_left]
   · have holds:∀ j u,xs[j]? = some u→w.cell? ((⟨g,0,none⟩:Addr).add j)=some u:=hown.cells (g:=g) rfl
     obtain⟨v',w',hr,ho,hgr⟩:=run_append_arg_grows w t ty e i z size bytes ht hi hz hsize hby hzs hsz ⟨g,0,none⟩ n cap xs hown.1 holds a m c news hl hnews (by omega) h63 hbytes
     exact⟨v',w',hr,zvt ho.w hbase,⟨hgr.os,hgr.tape,hgr.output,hgr.size,fun k hk _=>hgr.block k hk (by simp)⟩,fun b hb=>.inr (ho.lt b hb).1⟩
theorem zll {sz q:Nat} {zs:List AV} (h:∀ z∈zs,z.cells.length=sz) (hq:q≤zs.length):(zs.drop q).flatMap AV.cells=(zs.flatMap AV.cells).drop (q * sz):=by
 have hl:((zs.take q).flatMap AV.cells).length=q * sz:=by
  rw[zlo _ fun z hz=>h z (List.mem_of_mem_take hz),List.length_take,Nat.min_eq_left hq]
 conv=>rhs;rw[← List.take_append_drop q zs,List.flatMap_append,← hl,List.drop_left]
theorem zlq {sz q:Nat} {zs:List AV} (h:∀ z∈zs,z.cells.length=sz) (hq:q≤zs.length):(zs.take q).flatMap AV.cells=(zs.flatMap AV.cells).take (q * sz):=by
 have hl:((zs.take q).flatMap AV.cells).length=q * sz:=by
  rw[zlo _ fun z hz=>h z (List.mem_of_mem_take hz),List.length_take,Nat.min_eq_left hq]
 conv=>rhs;rw[← List.take_append_drop q zs,List.flatMap_append,← hl,List.take_left]
def srcAV (st:St) (sz:Nat):AV→Option (List AV)
 | .lst sz' xs=>if sz'=sz then some xs else none
 | .ref id k=>if k=st.ver id then
  match st.h id with
  | .arr _ sz' xs=>if sz'=sz then some xs else none
  | _=>none
  else none
 | .osl id k lo hi _=>if k=st.ver id then
  match st.h id with
  | .arr _ sz' xs=>if sz'=sz∧lo≤hi∧hi≤xs.length then some ((xs.drop lo).take (hi - lo)) else none
  | _=>none
  else none
 | .v (.slice none 0 0)=>some []
 | _=>none
section
variable {G:Ctx} {st:St} {E:Env} {a:Act}
theorem zls {sz:Nat} {xs:List AV} {u:Nat→Value} (hlen:∀ (i:Nat) x,xs[i]? = some x→x.cells.length=sz) (h:∀ (i:Nat) x (j:Nat) c,xs[i]? = some x→x.cells[j]? = some c→VR E c (u (i * sz+j))) :
 VRs E (xs.flatMap AV.cells) ((List.range (xs.length * sz)).map u):=by
 have hall:∀ x∈xs,x.cells.length=sz:=fun x hx=>by obtain⟨i,hi⟩:=List.mem_iff_getElem?.1 hx;exact hlen i x hi
 refine⟨by rw[zlo xs hall];simp,fun k c v hc hv=>?_⟩
 have hk:k < xs.length * sz:=by rw[← zlo xs hall];exact (List.getElem?_eq_some_iff.1 hc).1
 have hpos:0 < sz:=by rcases Nat.eq_zero_or_pos sz with h0|h0;subst h0;simp at hk;exact h0
 have hdiv:k / sz < xs.length:=Nat.div_lt_of_lt_mul (by rw[Nat.mul_comm];exact hk)
 have hx:=List.getElem?_eq_getElem hdiv
 have hkk:k=k / sz * sz+k % sz:=by rw[Nat.mul_comm];exact (Nat.div_add_mod k sz).symm
 have hg:=zlm xs (k / sz) _ (k % sz) hall hx (Nat.mod_lt _ hpos)
 rw[← hkk,hc]at hg
 have:=h _ _ _ _ hx hg.symm
 rw[← hkk]at this
 have hvu:v=u k:=by
  rw[List.getElem?_map,List.getElem?_range hk]at hv;simpa using hv.symm
 rw[hvu];exact this
theorem yj3 (hr:Rel G st E a) {sz:Nat} {p:AV} {y:Value} {ys:List AV} (hy:VR E p y) (h:srcAV st sz p=some ys) :
 (∀ x∈ys,x.cells.length=sz)∧((y=.slice none 0 0∧ys=[]) ∨
  ∃ (ad:Addr) (c:Nat) (us:List Value),y=.slice (some ad) ys.length c∧us.length=ys.length * sz∧(∀ j u,us[j]? = some u→E.w.cell? (ad.add j)=some u)∧VRs E (ys.flatMap AV.cells) us):=by
 unfold srcAV at h
 split at h
 · split at h
   case isFalse=>cases h
   rename_i hs
   subst hs
   cases h
   cases hy with
   | lst _ _ b off cap u hS c1 c2 c3 c4 c5 =>
    refine⟨fun x hx=>by obtain⟨i,hi⟩:=List.mem_iff_getElem?.1 hx;exact c4 i x hi,.inr ⟨⟨b,off,none⟩,cap,_,rfl,by simp,fun j v hv=>?_,zls c4 c5⟩⟩
    have hj:=(List.getElem?_eq_some_iff.1 hv).1
    simp only[List.length_map,List.length_range]at hj
    rw[List.getElem?_map,List.getElem?_range hj]at hv
    rw[zbr,c3 j hj];simpa using hv
   | lstNil=>exact⟨by simp,.inl ⟨rfl,rfl⟩⟩
   | lstNo _ cap ad _=>exact⟨by simp,.inr ⟨ad,cap,[],rfl,by simp,by simp,⟨rfl,by simp⟩⟩⟩
 · rename_i id k
   split at h
   case isFalse=>cases h
   rename_i hk
   split at h
   · rename_i e sz' xs hh
     split at h
     case isFalse=>cases h
     rename_i hs
     subst hs
     cases h
     cases hy with
     | ref _ _ _ h1 h2 =>
      rw[h2 (by rw[hr.ver];exact hk)]
      have hb:=hr.blocks id
      rw[hh]at hb
      obtain⟨hsz,us,hown,hlen,hvs,hblk⟩:=hb
      refine⟨hlen,?_⟩
      rcases hown.2 with ⟨hv,hn⟩|⟨g,cap,cur,hv,_⟩
      · exact .inl ⟨hv,List.eq_nil_of_length_eq_zero hn⟩
      · exact .inr ⟨⟨g,0,none⟩,cap,us,hv,hown.1,hown.cells (by rw[hv];rfl),hvs⟩
   · cases h
 · rename_i id k lo hi f
   split at h
   case isFalse=>cases h
   rename_i hk
   split at h
   · rename_i e sz' xs hh
     split at h
     case isFalse=>cases h
     rename_i hs
     obtain⟨rfl,hlh,hhx⟩:=hs
     cases h
     cases hy with
     | osl _ _ _ _ _ _ h1 h2 =>
      rw[h2 (by rw[hr.ver];exact hk)]
      have hb:=hr.blocks id
      rw[hh]at hb
      obtain⟨hsz,us,hown,hlen,hvs,hblk⟩:=hb
      refine⟨fun x hx=>hlen x (List.mem_of_mem_drop (List.mem_of_mem_take hx)),?_⟩
      have hl:((xs.drop lo).take (hi - lo)).length=hi - lo:=by rw[List.length_take,List.length_drop];omega
      rcases hown.2 with ⟨hv,hn⟩|⟨g,cap,cur,hv,_,_,hnc,_⟩
      · left
        have hlo:lo=0:=by omega
        have hhi:hi=0:=by omega
        subst hlo;subst hhi
        rw[hv]
        exact⟨by cases f<;>rfl,by simp⟩
      · right
        have hseg:((xs.drop lo).take (hi - lo)).flatMap AV.cells=((xs.flatMap AV.cells).drop (lo * sz')).take ((hi - lo) * sz'):=by
         rw[zlq (fun z hz=>hlen z (List.mem_of_mem_drop hz)) (by rw[List.length_drop];omega),zll hlen (by omega)]
        have hul:=hown.1
        have hm1:lo * sz'+(hi - lo) * sz'=hi * sz':=by rw[← Nat.add_mul];congr 1;omega
        have hm2:hi * sz'≤xs.length * sz':=Nat.mul_le_mul_right _ hhx
        have hcl:((us.drop (lo * sz')).take ((hi - lo) * sz')).length=(hi - lo) * sz':=by rw[List.length_take,List.length_drop];omega
        have hcells:=hown.cells (g:=g) (by rw[hv];rfl)
        refine⟨if (if f=true then hi else cap)=lo then ⟨g,0,none⟩ else ⟨g,lo * sz',none⟩,(if f=true then hi else cap) - lo,(us.drop (lo * sz')).take ((hi - lo) * sz'),?_,by rw[hcl,hl],?_,?_⟩
        · rw[hv,hsz,hl,ylg]
          by_cases hc:(if f=true then hi else cap)=lo
          · rw[if_pos hc,if_pos hc]
          · rw[if_neg hc,if_neg hc,Option.map_some,zbr,Nat.zero_add]
        · intro j u hu
          have hj:=(List.getElem?_eq_some_iff.1 hu).1
          rw[hcl]at hj
          have hne:¬ (if f=true then hi else cap)=lo:=by
           intro hc
           have:hi - lo=0:=by cases f<;>simp at hc<;>omega
           rw[this]at hj;simp at hj
          rw[if_neg hne,zbr]
          rw[List.getElem?_take,if_pos hj,List.getElem?_drop]at hu
          have:=hcells _ u hu
          rw[zbr,Nat.zero_add]at this
          exact this
        · rw[hseg]
          refine⟨by rw[List.length_take,List.length_drop,List.length_take,List.length_drop,hvs.1],fun i c u hc hu=>?_⟩
          rw[List.getElem?_take]at hc hu
          split at hc
          · rename_i hi'
            rw[if_pos hi',List.getElem?_drop]at hu
            rw[List.getElem?_drop]at hc
            exact hvs.2 _ c u hc hu
          · cases hc
   · cases h
 · cases h;rw[hy.v_inv];exact⟨by simp,.inl ⟨rfl,rfl⟩⟩
 · cases h
def zib (st:St) (d e sz:Nat):AV→Option (Nat×List AV)
 | .ref id k=>if k=st.ver id then
  match st.h id with
  | .arr e' sz' xs=>if e'=e∧sz'=sz then some (id,xs) else none
  | _=>none
  else none
 | .v (.slice none 0 0)=>some (d,[])
 | _=>none
def St.setArr (st:St) (id e sz:Nat) (xs:List AV):St:={ st with ver:=upd st.ver id (st.ver id+1),h:=upd st.h id (.arr e sz xs) }
theorem zdz (hr:Rel G st E a) {t ty:TypeId} {e sz bytes d id:Nat} {p q:AV} {x y:Value} {xs ys:List AV} (hx:VR E p x) (hy:VR E q y)
 (he:tElem G.P t=some e) (hs:tSize G.P e=some sz) (hb:ylk G.P e=some bytes) (hz:(tZero G.P e).map (·.cells.size)=some sz) (hpos:0 < sz)
 (hd:zib st d e sz p=some (id,xs)) (hsrc:srcAV st sz q=some ys) (hok:∀ c∈ys,zth st c=true) (hn:(xs.length+ys.length) * bytes≤140737488355328) (hn':xs.length+ys.length≤maxLen) :
 ∃ x' E',(Builtin.append_ #[t,t] ty #[x,y]).run G.P E.w=.ok x' E'.w∧Rel G (st.setArr id e sz (xs++ys)) E' a∧VR E' (.ref id (st.ver id+1)) x':=by
 obtain⟨hyl,hysrc⟩:=yj3 hr hy hsrc
 have hu:=ylr he
 obtain⟨i,hi,hisz⟩:=Option.map_eq_some_iff.1 hs
 have hiby:i.bytes=bytes:=by have:=hb;unfold ylk at this;simpa [hi] using this
 obtain⟨z,hz0,hzs⟩:=Option.map_eq_some_iff.1 hz
 have hiz:i.zero=some z:=by unfold tZero at hz0;simpa [hi] using hz0
 -- the destination
 have hdest:∃ us,E.w.ownsRowW G.w0.heap.size e sz x xs.length us∧VRs E (xs.flatMap AV.cells) us∧(∀ c∈xs,c.cells.length=sz)∧(∀ b,x.ownBlock=some b→(st.h id).at (E.own id)=some b∧¬ E.S b):=by
  unfold zib at hd
  split at hd
  · rename_i id' k
    split at hd
    case isFalse=>cases hd
    rename_i hk
    split at hd
    · rename_i e' sz' xs' hh
      split at hd
      case isFalse=>cases hd
      rename_i hes
      obtain⟨rfl,rfl⟩:=hes
      cases hd
      cases hx with
      | ref _ _ _ h1 h2 =>
       rw[h2 (by rw[hr.ver];exact hk)]
       have hbk:=hr.blocks id
       rw[hh]at hbk
       obtain⟨hsz',us,hown,hlen,hvs,hblk⟩:=hbk
       exact⟨us,hown,hvs,hlen,fun b hb=>⟨by rw[hh];exact hb,(hblk b hb).2⟩⟩
    · cases hd
  · cases hd
    rw[hx.v_inv]
    exact⟨[],World.ownsRowW_nil _ _ _ _,⟨rfl,by simp⟩,by simp,fun b hb=>by simp[Value.ownBlock]at hb⟩
  · cases hd
 obtain⟨us,hown,hxv,hxl,hxb⟩:=hdest
 -- the run
 have hrun:∃ x' w',(Builtin.append_ #[t,t] ty #[x,y]).run G.P E.w=.ok x' w'∧(∃ us',VRs E (ys.flatMap AV.cells) us'∧w'.ownsRowW G.w0.heap.size e sz x' (xs.length+ys.length) (us++us')) ∧
  E.w.grownBy w' x.ownBlock∧(∀ b,x'.ownBlock=some b→x.ownBlock=some b∨E.w.heap.size≤b):=by
  rcases hysrc with ⟨rfl,rfl⟩|⟨ad,c,us',rfl,hul,hcell,hvs⟩
  · exact⟨x,E.w,yg1 (P:=G.P) E.w _ t ty e i sz hu hi x _ us hown,⟨[],⟨rfl,by simp⟩,by simpa using hown⟩,⟨rfl,rfl,rfl,Nat.le_refl _,fun _ _ _=>rfl⟩,fun b hb=>.inl hb⟩
  · have h1:∀ u∈us',u.oneCell'=true:=by
     intro u hu'
     obtain⟨k,hk⟩:=List.mem_iff_getElem?.1 hu'
     have hlt:k < (ys.flatMap AV.cells).length:=by rw[hvs.1];exact (List.getElem?_eq_some_iff.1 hk).1
     have hck:=List.getElem?_eq_getElem hlt
     obtain⟨yy,hyy,hmem⟩:=List.mem_flatMap.1 (List.getElem_mem hlt)
     have:=hok yy hyy
     simp only[zth,List.all_eq_true]at this
     exact (ztg hr (hvs.2 k _ u hck hk) (this _ hmem)).1
    obtain⟨x',w',hr1,ho,hg,hsame⟩:=yg2 E.w G.w0.heap.size t ty e i z sz bytes hu hi hiz hisz hiby hzs hpos x _ us hown ad _ c us' hul hcell h1 hn' hn hr.below.size
    exact⟨x',w',hr1,⟨us',hvs,ho⟩,hg,hsame⟩
 obtain⟨x',w',hr1,⟨us',hvs',ho⟩,hg,hsame⟩:=hrun
 let o:Own:=⟨x',(x'.ownBlock).getD 0,sz⟩
 let E':Env:={ ver:=upd E.ver id (st.ver id+1),own:=upd E.own id o,S:=E.S,w:=w' }
 have hve:E.ver id=st.ver id:=by rw[hr.ver]
 have hle:E.Le E':=by
  refine⟨fun _ h=>h,fun b hb=>hg.block b (hr.Slt b hb) fun he=>?_,fun j=>by by_cases h:j=id<;>simp[E',upd,h,hve],fun j hj=>?_⟩
  · exact (hxb b he.symm).2 hb
  · by_cases h:j=id
    · subst h;simp[E',upd,hve]at hj
    · simp[E',upd,h]
 have hbk:∀ b,x'.ownBlock=some b→(st.h id).at (E.own id)=some b∨E.w.heap.size≤b:=fun b hb=>(hsame b hb).imp (fun h=>(hxb b h).1) (fun h=>h)
 refine⟨x',E',hr1,?_,.ref _ _ _ (by simp[E',upd]) fun _=>by simp[E',upd,o]⟩
 refine hr.own id (.arr e sz (xs++ys)) o (st.ver id+1) rfl (by omega) rfl (fun h=>by omega) rfl ?_ hg.size (fun b hb hne=>hg.block b hb fun he=>hne (hxb b he.symm).1) ?_ hbk
 · exact hr.below.grown hg hr.below.size fun k hk=>(hown.lt k hk).1
 · refine⟨rfl,us++us',by simpa using ho,fun c hc=>?_,?_,fun b hb=>⟨by simp only[o]at hb ⊢;rw[hb];rfl,fun hS=>?_⟩⟩
   · rcases List.mem_append.1 hc with h|h
     · exact hxl c h
     · exact hyl c h
   · rw[List.flatMap_append]
     have hxv':=hxv.mono hle
     have hvs'':=hvs'.mono hle
     refine⟨by simp[hxv'.1,hvs''.1],fun k c u hc hu'=>?_⟩
     by_cases hk:k < (xs.flatMap AV.cells).length
     · rw[List.getElem?_append_left hk]at hc
       rw[List.getElem?_append_left (by rw[← hxv.1];exact hk)]at hu'
       exact hxv'.2 k c u hc hu'
     · rw[List.getElem?_append_right (by omega)]at hc
       rw[List.getElem?_append_right (by rw[← hxv.1];omega),← hxv.1]at hu'
       exact hvs''.2 _ c u hc hu'
   · rcases hsame b hb with h|h
     · exact (hxb b h).2 hS
     · have:=hr.Slt b hS;omega
theorem yg4 {P:Program} (w:World) (t ty e:TypeId) (i:TypeInfo) (ht:P.underlying t=some (.slice e)) (hi:P.info? e=some i) (ad ay:Option Addr) (n c:Nat) (hc:n≤c) (cy:Nat) (hy:ay=none→cy=0) (hx:ad=none→n=0∧c=0) :
 (Builtin.append_ #[t,t] ty #[.slice ad n c,.slice ay 0 cy]).run P w=.ok (.slice ad n c) w:=by
 cases ay with
 | none =>
  cases hy rfl
  cases ad with
  | none=>obtain⟨rfl,rfl⟩:=hx rfl;simp[Builtin.append_,run_underlying ht,sizeOf,typeInfo,hi,Builtin.lenOf,Builtin.firstCells]
  | some ad=>simp[Builtin.append_,run_underlying ht,sizeOf,typeInfo,hi,Builtin.lenOf,Builtin.firstCells,hc,storeCells]
 | some a =>
  have hf:=run_firstCells_some (P:=P) w i.size 0 a 0 cy [] (by simp) (by simp)
  cases ad with
  | none=>obtain⟨rfl,rfl⟩:=hx rfl;simp[Builtin.append_,run_underlying ht,sizeOf,typeInfo,hi,Builtin.lenOf,hf]
  | some ad=>simp[Builtin.append_,run_underlying ht,sizeOf,typeInfo,hi,Builtin.lenOf,hf,hc,storeCells]
theorem zdu (hr:Rel G st E a) {t ty:TypeId} {e sz:Nat} {q:AV} {x y:Value} {xs:List AV} (hx:VR E (.full sz xs) x) (hy:VR E q y)
 (he:tElem G.P t=some e) (hs:tSize G.P e=some sz) (hsrc:srcAV st sz q=some []) :
 (Builtin.append_ #[t,t] ty #[x,y]).run G.P E.w=.ok x E.w∧VR E (.lst sz xs) x:=by
 obtain⟨_,hysrc⟩:=yj3 hr hy hsrc
 have hu:=ylr he
 obtain⟨i,hi,hisz⟩:=Option.map_eq_some_iff.1 hs
 cases hx with
 | full _ _ ad h =>
  refine⟨?_,h⟩
  have hx:ad=none→xs.length=0∧xs.length=0:=by
   rintro rfl
   have:xs=[]:=by
    generalize hv:Value.slice none xs.length xs.length=v at h
    cases h with
    | lst=>cases hv
    | lstNil=>rfl
    | lstNo=>rfl
   simp[this]
  rcases hysrc with ⟨rfl,_⟩|⟨ay,c,us',rfl,_,_,_⟩
  · exact yg4 E.w t ty e i hu hi ad none _ _ (Nat.le_refl _) 0 (fun _=>rfl) hx
  · exact yg4 E.w t ty e i hu hi ad (some ay) _ _ (Nat.le_refl _) c (by simp) hx
theorem zdv (hr:Rel G st E a) {t ty:TypeId} {e sz bytes id:Nat} {q:AV} {x y:Value} {xs ys:List AV} (hx:VR E (.full sz xs) x) (hy:VR E q y)
 (he:tElem G.P t=some e) (hs:tSize G.P e=some sz) (hb:ylk G.P e=some bytes) (hz:(tZero G.P e).map (·.cells.size)=some sz) (hpos:0 < sz)
 (hsrc:srcAV st sz q=some ys) (hok:∀ c∈ys,zth st c=true) (hne:ys≠[]) (hn:(xs.length+ys.length) * bytes≤140737488355328) (hn':xs.length+ys.length≤maxLen) :
 ∃ x' E',(Builtin.append_ #[t,t] ty #[x,y]).run G.P E.w=.ok x' E'.w∧Rel G (st.setArr id e sz (xs++ys)) E' a∧VR E' (.ref id (st.ver id+1)) x':=by
 obtain⟨hyl,hysrc⟩:=yj3 hr hy hsrc
 have hu:=ylr he
 obtain⟨i,hi,hisz⟩:=Option.map_eq_some_iff.1 hs
 have hiby:i.bytes=bytes:=by have:=hb;unfold ylk at this;simpa [hi] using this
 obtain⟨z,hz0,hzs⟩:=Option.map_eq_some_iff.1 hz
 have hiz:i.zero=some z:=by unfold tZero at hz0;simpa [hi] using hz0
 have hfull:∃ ad,x=.slice ad xs.length xs.length∧VR E (.lst sz xs) x:=by
  cases hx with
  | full _ _ ad h=>exact⟨ad,rfl,h⟩
 obtain⟨ad,hxe,hxl'⟩:=hfull
 obtain⟨hxl,hxsrc⟩:=yj3 hr hxl' (show srcAV st sz (.lst sz xs)=some xs by simp[srcAV])
 have h1:∀ us':List Value,VRs E (ys.flatMap AV.cells) us'→∀ u∈us',u.oneCell'=true:=by
  intro us' hvs u hu'
  obtain⟨k,hk⟩:=List.mem_iff_getElem?.1 hu'
  have hlt:k < (ys.flatMap AV.cells).length:=by rw[hvs.1];exact (List.getElem?_eq_some_iff.1 hk).1
  have hck:=List.getElem?_eq_getElem hlt
  obtain⟨yy,hyy,hmem⟩:=List.mem_flatMap.1 (List.getElem_mem hlt)
  have:=hok yy hyy
  simp only[zth,List.all_eq_true]at this
  exact (ztg hr (hvs.2 k _ u hck hk) (this _ hmem)).1
 have hypos:0 < ys.length:=List.length_pos_iff.2 hne
 have hrun:∃ x' w' us us',(Builtin.append_ #[t,t] ty #[x,y]).run G.P E.w=.ok x' w'∧VRs E (xs.flatMap AV.cells) us∧VRs E (ys.flatMap AV.cells) us'∧w'.ownsRow E.w.heap.size e sz x' (xs.length+ys.length) (us++us') ∧
  E.w.grownBy w' none:=by
  rcases hysrc with ⟨rfl,rfl⟩|⟨ay,c,us',rfl,hul,hcell,hvs⟩
  · exact (hne rfl).elim
  · rcases hxsrc with ⟨hx0,hx1⟩|⟨ax,cx,us,hx0,hulx,hcellx,hvsx⟩
    · subst hx1
      rw[hx0]
      obtain⟨v',w',hr1,ho,hgr,_⟩:=run_append_own E.w E.w.heap.size t ty e i z sz bytes hu hi hiz hisz hiby hzs hpos (.slice none 0 0) 0 [] (World.ownsRow_nil _ _ _ _) ay _ c us' hul hcell (h1 _ hvs) (by simpa using hn') (by simpa using hn) (Nat.le_refl _)
      exact⟨v',w',[],us',hr1,⟨rfl,by simp⟩,hvs,by simpa using ho,hgr⟩
    · have hc:cx=xs.length:=by rw[hxe]at hx0;cases hx0;rfl
      subst hc
      rw[hx0]
      obtain⟨v',w',hr1,ho,hgr⟩:=run_append_arg_grows E.w t ty e i z sz bytes hu hi hiz hisz hiby hzs hpos ax xs.length xs.length us hulx hcellx ay ys.length c us' hul hcell (by omega) hn' hn
      exact⟨v',w',us,us',hr1,hvsx,hvs,ho,hgr⟩
 obtain⟨x',w',us,us',hr1,hxv,hvs',ho,hg⟩:=hrun
 let o:Own:=⟨x',(x'.ownBlock).getD 0,sz⟩
 let E':Env:={ ver:=upd E.ver id (st.ver id+1),own:=upd E.own id o,S:=E.S,w:=w' }
 have hve:E.ver id=st.ver id:=by rw[hr.ver]
 have hle:E.Le E':=by
  refine⟨fun _ h=>h,fun b hb=>hg.block b (hr.Slt b hb) (by simp),fun j=>by by_cases h:j=id<;>simp[E',upd,h,hve],fun j hj=>?_⟩
  by_cases h:j=id
  · subst h;simp[E',upd,hve]at hj
  · simp[E',upd,h]
 have hnew:∀ b,x'.ownBlock=some b→E.w.heap.size≤b:=fun b hb=>(ho.lt b hb).1
 refine⟨x',E',hr1,?_,.ref _ _ _ (by simp[E',upd]) fun _=>by simp[E',upd,o]⟩
 refine hr.own id (.arr e sz (xs++ys)) o (st.ver id+1) rfl (by omega) rfl (fun h=>by omega) rfl ?_ hg.size (fun b hb hne=>hg.block b hb (by simp)) ?_ fun b hb=>.inr (hnew b hb)
 · exact hr.below.grown hg hr.below.size fun k hk=>by cases hk
 · refine⟨rfl,us++us',by simpa using zvt ho.w hr.below.size,fun c hc=>?_,?_,fun b hb=>⟨by simp only[o]at hb ⊢;rw[hb];rfl,fun hS=>?_⟩⟩
   · rcases List.mem_append.1 hc with h|h
     · exact hxl c h
     · exact hyl c h
   · rw[List.flatMap_append]
     have hxv':=hxv.mono hle
     have hvs'':=hvs'.mono hle
     refine⟨by simp[hxv'.1,hvs''.1],fun k c u hc hu'=>?_⟩
     by_cases hk:k < (xs.flatMap AV.cells).length
     · rw[List.getElem?_append_left hk]at hc
       rw[List.getElem?_append_left (by rw[← hxv.1];exact hk)]at hu'
       exact hxv'.2 k c u hc hu'
     · rw[List.getElem?_append_right (by omega)]at hc
       rw[List.getElem?_append_right (by rw[← hxv.1];omega),← hxv.1]at hu'
       exact hvs''.2 _ c u hc hu'
   · have:=hr.Slt b hS
     have:=hnew b hb
     omega
def oslOf (st:St):AV→Option (Nat×Nat×Nat×List AV×Nat×Nat)
 | .osl id k lo hi true=>if k=st.ver id then
  match st.h id with
  | .arr e sz xs=>if lo≤hi∧hi≤xs.length then some (id,e,sz,xs,lo,hi) else none
  | _=>none
  else none
 | _=>none
theorem oslOf_eq {st:St} {p:AV} {id e sz lo hi:Nat} {xs:List AV} (h:oslOf st p=some (id,e,sz,xs,lo,hi)):p=.osl id (st.ver id) lo hi true∧st.h id=.arr e sz xs∧lo≤hi∧hi≤xs.length:=by
 unfold oslOf at h
 split at h
 · rename_i id' k lo' hi'
   split at h
   case isFalse=>cases h
   rename_i hk
   split at h
   · rename_i e' sz' xs' hh
     split at h
     case isFalse=>cases h
     rename_i hb
     cases h
     exact⟨by rw[hk],hh,hb.1,hb.2⟩
   · cases h
 · cases h
theorem zdw (hr:Rel G st E a) {t ty:TypeId} {id e sz hi:Nat} {q:AV} {x y:Value} {xs:List AV} (hh:st.h id=.arr e sz xs) (hhi:hi≤xs.length) (hx:VR E (.osl id (st.ver id) 0 hi true) x) (hy:VR E q y)
 (he:tElem G.P t=some e) (hs:tSize G.P e=some sz) (hsrc:srcAV st sz q=some []) :
 ∃ E',(Builtin.append_ #[t,t] ty #[x,y]).run G.P E.w=.ok x E'.w∧Rel G (st.setArr id e sz (xs.take hi)) E' a∧VR E' (.ref id (st.ver id+1)) x:=by
 obtain⟨_,hysrc⟩:=yj3 hr hy hsrc
 have hu:=ylr he
 obtain⟨i,hi',hisz⟩:=Option.map_eq_some_iff.1 hs
 have hve:E.ver id=st.ver id:=by rw[hr.ver]
 have hb:=hr.blocks id
 rw[hh]at hb
 obtain⟨hsz,us,hown,hlen,hvs,hblk⟩:=hb
 have hxv:x=subV (E.own id).val (E.own id).sz 0 hi true:=by
  cases hx with
  | osl _ _ _ _ _ _ h1 h2=>exact h2 hve.symm
 have hmul:hi * sz≤xs.length * sz:=Nat.mul_le_mul_right _ hhi
 have hul:=hown.1
 have hrow:E.w.ownsRowW G.w0.heap.size e sz x (xs.take hi).length (us.take (hi * sz))∧(∀ b,x.ownBlock=some b→(E.own id).val.ownBlock=some b)∧(∃ ad,x=.slice ad hi hi∧(ad=none→hi=0)):=by
  rcases hown.2 with ⟨hv,hn⟩|⟨g,cap,cur,hv,hg,hheap,hnc,hcm,hcs,ht⟩
  · have h0:hi=0:=by omega
    subst h0
    rw[hv]at hxv
    have hxe:x=.slice none 0 0:=by rw[hxv];rfl
    rw[hxe]
    exact⟨by simpa using World.ownsRowW_nil E.w G.w0.heap.size e sz,fun b hb=>(by cases hb),none,rfl,fun _=>rfl⟩
  · have hxe:x=.slice (some ⟨g,0,none⟩) hi hi:=by
     rw[hxv,hv,ylg]
     simp[zbr]
    rw[hxe]
    refine⟨⟨by rw[List.length_take,List.length_take];rw[Nat.min_eq_left hhi];omega,.inr ⟨g,hi,cur,by rw[List.length_take,Nat.min_eq_left hhi],hg,hheap,by rw[List.length_take];omega,by omega,?_,?_⟩⟩,fun b hb=>(by rw[hv];exact hb),some ⟨g,0,none⟩,rfl,fun h=>(by cases h)⟩
    · have:hi * sz≤cap * sz:=Nat.mul_le_mul_right _ (by omega)
      omega
    · rw[List.length_take,Nat.min_eq_left hhi,← ht,List.take_take,Nat.min_eq_left hmul]
 obtain⟨hrow,hob,ad,hxs,had⟩:=hrow
 let o:Own:=⟨x,(E.own id).blk,sz⟩
 let E':Env:={ ver:=upd E.ver id (st.ver id+1),own:=upd E.own id o,S:=E.S,w:=E.w }
 have hle:E.Le E':=by
  refine⟨fun _ h=>h,fun b hb=>rfl,fun j=>by by_cases h:j=id<;>simp[E',upd,h,hve],fun j hj=>?_⟩
  by_cases h:j=id
  · subst h;simp[E',upd,hve]at hj
  · simp[E',upd,h]
 refine⟨E',?_,?_,.ref _ _ _ (by simp[E',upd]) fun _=>by simp[E',upd,o]⟩
 · rw[hxs]
   rcases hysrc with ⟨rfl,_⟩|⟨ay,c,us',rfl,_,_,_⟩
   · exact yg4 E.w t ty e i hu hi' ad none _ _ (Nat.le_refl _) 0 (fun _=>rfl) fun h=>⟨had h,had h⟩
   · exact yg4 E.w t ty e i hu hi' ad (some ay) _ _ (Nat.le_refl _) c (by simp) fun h=>⟨had h,had h⟩
 · refine hr.own id (.arr e sz (xs.take hi)) o (st.ver id+1) rfl (by omega) rfl (fun h=>by omega) rfl hr.below (Nat.le_refl _) (fun b hb _=>rfl) ?_ fun b hb=>.inl (by rw[hh];exact hob b hb)
   refine⟨rfl,us.take (hi * sz),hrow,fun c hc=>hlen c (List.mem_of_mem_take hc),?_,fun b hb=>⟨(hblk b (hob b hb)).1,(hblk b (hob b hb)).2⟩⟩
   rw[zlq hlen hhi]
   refine⟨by rw[List.length_take,List.length_take,hvs.1],fun i c u hc hu=>?_⟩
   rw[List.getElem?_take]at hc hu
   split at hc
   · rename_i h1;rw[if_pos h1]at hu;exact (hvs.2 i c u hc hu).mono hle
   · cases hc
theorem zdx (hr:Rel G st E a) {t ty:TypeId} {id0 e sz bytes id lo hi:Nat} {q:AV} {x y:Value} {xs ys:List AV} (hh:st.h id0=.arr e sz xs) (hlh:lo≤hi) (hhi:hi≤xs.length) (hx:VR E (.osl id0 (st.ver id0) lo hi true) x) (hy:VR E q y)
 (he:tElem G.P t=some e) (hs:tSize G.P e=some sz) (hb:ylk G.P e=some bytes) (hz:(tZero G.P e).map (·.cells.size)=some sz) (hpos:0 < sz)
 (hsrc:srcAV st sz q=some ys) (hok:∀ c∈ys,zth st c=true) (hne:ys≠[]) (hn:(hi - lo+ys.length) * bytes≤140737488355328) (hn':hi - lo+ys.length≤maxLen) :
 ∃ x' E',(Builtin.append_ #[t,t] ty #[x,y]).run G.P E.w=.ok x' E'.w∧Rel G (st.setArr id e sz ((xs.drop lo).take (hi - lo)++ys)) E' a∧VR E' (.ref id (st.ver id+1)) x':=by
 obtain⟨hyl,hysrc⟩:=yj3 hr hy hsrc
 obtain⟨hxl,hxsrc⟩:=yj3 (sz:=sz) (ys:=(xs.drop lo).take (hi - lo)) hr hx (by simp[srcAV,hh,hlh,hhi])
 have hxlen:((xs.drop lo).take (hi - lo)).length=hi - lo:=by rw[List.length_take,List.length_drop];omega
 have hcap:∃ ad,x=.slice ad (hi - lo) (hi - lo):=by
  cases hx with
  | osl _ _ _ _ _ _ h1 h2 =>
   rw[h2 (by rw[hr.ver])]
   have hb:=hr.blocks id0
   rw[hh]at hb
   obtain⟨hsz,us,hown,hlen,hvs,hblk⟩:=hb
   rcases hown.2 with ⟨hv,hn⟩|⟨g,cap,cur,hv,_⟩<;>rw[hv,ylg]<;>exact⟨_,rfl⟩
 obtain⟨ad0,hxe⟩:=hcap
 generalize (xs.drop lo).take (hi - lo)=zs at hxl hxsrc hxlen ⊢
 have hu:=ylr he
 obtain⟨i,hi',hisz⟩:=Option.map_eq_some_iff.1 hs
 have hiby:i.bytes=bytes:=by have:=hb;unfold ylk at this;simpa [hi'] using this
 obtain⟨z,hz0,hzs⟩:=Option.map_eq_some_iff.1 hz
 have hiz:i.zero=some z:=by unfold tZero at hz0;simpa [hi'] using hz0
 have h1:∀ us':List Value,VRs E (ys.flatMap AV.cells) us'→∀ u∈us',u.oneCell'=true:=by
  intro us' hvs u hu'
  obtain⟨k,hk⟩:=List.mem_iff_getElem?.1 hu'
  have hlt:k < (ys.flatMap AV.cells).length:=by rw[hvs.1];exact (List.getElem?_eq_some_iff.1 hk).1
  have hck:=List.getElem?_eq_getElem hlt
  obtain⟨yy,hyy,hmem⟩:=List.mem_flatMap.1 (List.getElem_mem hlt)
  have:=hok yy hyy
  simp only[zth,List.all_eq_true]at this
  exact (ztg hr (hvs.2 k _ u hck hk) (this _ hmem)).1
 have hypos:0 < ys.length:=List.length_pos_iff.2 hne
 rw[← hxlen]at hn hn' hxe
 have hrun:∃ x' w' us us',(Builtin.append_ #[t,t] ty #[x,y]).run G.P E.w=.ok x' w'∧VRs E (zs.flatMap AV.cells) us∧VRs E (ys.flatMap AV.cells) us'∧w'.ownsRow E.w.heap.size e sz x' (zs.length+ys.length) (us++us') ∧
  E.w.grownBy w' none:=by
  rcases hysrc with ⟨rfl,rfl⟩|⟨ay,c,us',rfl,hul,hcell,hvs⟩
  · exact (hne rfl).elim
  · rcases hxsrc with ⟨hx0,hx1⟩|⟨ax,cx,us,hx0,hulx,hcellx,hvsx⟩
    · subst hx1
      rw[hx0]
      obtain⟨v',w',hr1,ho,hgr,_⟩:=run_append_own E.w E.w.heap.size t ty e i z sz bytes hu hi' hiz hisz hiby hzs hpos (.slice none 0 0) 0 [] (World.ownsRow_nil _ _ _ _) ay _ c us' hul hcell (h1 _ hvs) (by simpa using hn') (by simpa using hn) (Nat.le_refl _)
      exact⟨v',w',[],us',hr1,⟨rfl,by simp⟩,hvs,by simpa using ho,hgr⟩
    · have hc:cx=zs.length:=by rw[hxe]at hx0;cases hx0;rfl
      subst hc
      rw[hx0]
      obtain⟨v',w',hr1,ho,hgr⟩:=run_append_arg_grows E.w t ty e i z sz bytes hu hi' hiz hisz hiby hzs hpos ax zs.length zs.length us hulx hcellx ay ys.length c us' hul hcell (by omega) hn' hn
      exact⟨v',w',us,us',hr1,hvsx,hvs,ho,hgr⟩
 obtain⟨x',w',us,us',hr1,hxv,hvs',ho,hg⟩:=hrun
 let o:Own:=⟨x',(x'.ownBlock).getD 0,sz⟩
 let E':Env:={ ver:=upd E.ver id (st.ver id+1),own:=upd E.own id o,S:=E.S,w:=w' }
 have hve:E.ver id=st.ver id:=by rw[hr.ver]
 have hle:E.Le E':=by
  refine⟨fun _ h=>h,fun b hb=>hg.block b (hr.Slt b hb) (by simp),fun j=>by by_cases h:j=id<;>simp[E',upd,h,hve],fun j hj=>?_⟩
  by_cases h:j=id
  · subst h;simp[E',upd,hve]at hj
  · simp[E',upd,h]
 have hnew:∀ b,x'.ownBlock=some b→E.w.heap.size≤b:=fun b hb=>(ho.lt b hb).1
 refine⟨x',E',hr1,?_,.ref _ _ _ (by simp[E',upd]) fun _=>by simp[E',upd,o]⟩
 refine hr.own id (.arr e sz (zs++ys)) o (st.ver id+1) rfl (by omega) rfl (fun h=>by omega) rfl ?_ hg.size (fun b hb hne=>hg.block b hb (by simp)) ?_ fun b hb=>.inr (hnew b hb)
 · exact hr.below.grown hg hr.below.size fun k hk=>by cases hk
 · refine⟨rfl,us++us',by simpa using zvt ho.w hr.below.size,fun c hc=>?_,?_,fun b hb=>⟨by simp only[o]at hb ⊢;rw[hb];rfl,fun hS=>?_⟩⟩
   · rcases List.mem_append.1 hc with h|h
     · exact hxl c h
     · exact hyl c h
   · rw[List.flatMap_append]
     have hxv':=hxv.mono hle
     have hvs'':=hvs'.mono hle
     refine⟨by simp[hxv'.1,hvs''.1],fun k c u hc hu'=>?_⟩
     by_cases hk:k < (zs.flatMap AV.cells).length
     · rw[List.getElem?_append_left hk]at hc
       rw[List.getElem?_append_left (by rw[← hxv.1];exact hk)]at hu'
       exact hxv'.2 k c u hc hu'
     · rw[List.getElem?_append_right (by omega)]at hc
       rw[List.getElem?_append_right (by rw[← hxv.1];omega),← hxv.1]at hu'
       exact hvs''.2 _ c u hc hu'
   · have:=hr.Slt b hS
     have:=hnew b hb
     omega
def ykv (P:Program) (st:St) (t:TypeId) (p q:AV):Option St :=
 match p with
 | .rptr id k i j =>
  if k=st.ver id∧tSize P t=some q.cells.length∧zth st q=true then
   match st.h id with
   | .box cs=>if i=0∧j+q.cells.length≤cs.length then some { st with h:=upd st.h id (.box (yjt cs j q.cells)) } else none
   | .arr e sz xs=>match xs[i]? with
    | some x =>
     if j=0∧q.cells.length=sz then some { st with h:=upd st.h id (.arr e sz (xs.set i q)) }
     else match x with
      | .agg cs=>if j+q.cells.length≤cs.length then some { st with h:=upd st.h id (.arr e sz (xs.set i (.agg (yjt cs j q.cells)))) } else none
      | _=>none
    | none=>none
   | _=>none
  else none
 | _=>none
theorem Rel.storeAt (hr:Rel G st E a) {id:Nat} {blk':Blk} {g o:Nat} {cur:Array Value} {ty:TypeId} {vs:List Value} (hh:E.w.heap[g]? = some (.cells cur ty (0,0))) (hat:(st.h id).at (E.own id)=some g)
 (hfit:o+vs.length≤cur.size) (h1:∀ v∈vs,v.oneCell'=true) (hblk:∀ w',(∀ b,b≠g→w'.heap[b]? = E.w.heap[b]?)→w'.heap[g]? = some (.cells (yjt cur.toList o vs).toArray ty (0,0)) →
  E.Le { E with w:=w' }→BR { E with w:=w' } G.w0.heap.size (E.own id) blk') (hsame:blk'.at (E.own id)=some g) :
 ∃ E',(storeCells ⟨g,o,none⟩ vs 0).run G.P E.w=.ok () E'.w∧Rel G { st with h:=upd st.h id blk' } E' a:=by
 have hst:=run_storeCells_at G.P g o ty vs 0 cur E.w hh (by simpa using hfit) h1
 simp only[Nat.add_zero]at hst
 have hbnd:=(hr.blocks id).at_lt hat
 let w':=E.w.setRow g (cur.toList.take o++vs++cur.toList.drop (o+vs.length)).toArray
 have hle:E.Le { E with w:=w' }:=⟨fun _ h=>h,fun b hb=>setRow_other _ _ _ _ (fun he=>hbnd.2.2 (he ▸ hb)),fun _=>Nat.le_refl _,fun _ _=>rfl⟩
 refine⟨{ E with w:=w' },hst,?_⟩
 have hr':=hr.own (E':={ E with w:=w' }) id blk' (E.own id) (E.ver id) (by funext j;by_cases h:j=id<;>simp[upd,h]) (Nat.le_refl _) (by funext j;by_cases h:j=id<;>simp[upd,h]) (fun _=>rfl) rfl
  (below_setRow hr.below hbnd.1 _) (by simp[w']) (fun b hb hne=>setRow_other _ _ _ _ (fun he=>hne (he ▸ hat)))
  (hblk w' (fun b hb=>setRow_other _ _ _ _ hb) (setRow_heap _ _ _ _ _ _ hh) hle) (fun b hb=>.inl (by rw[hsame]at hb;cases hb;exact hat))
 have he:upd st.ver id (E.ver id)=st.ver:=by funext j;by_cases h:j=id<;>simp[upd,h,hr.ver]
 rw[he]at hr'
 exact hr'
theorem flat_set {sz:Nat} (xs:List AV) (i:Nat) (x y:AV) (hlen:∀ x∈xs,x.cells.length=sz) (hi:xs[i]? = some x) (hy:y.cells.length=sz) :
 (xs.set i y).flatMap AV.cells=yjt (xs.flatMap AV.cells) (i * sz) y.cells:=by
 induction xs generalizing i with
 | nil=>simp at hi
 | cons z zs ih =>
  have hz:=hlen z (by simp)
  cases i with
  | zero =>
   simp only[List.set_cons_zero,List.flatMap_cons,yjt,Nat.zero_mul,List.take_zero,List.nil_append,Nat.zero_add]
   rw[List.drop_append,List.drop_eq_nil_of_le (by omega),List.nil_append,hy,hz,Nat.sub_self,List.drop_zero]
  | succ i =>
   have:=ih i (fun x hx=>hlen x (by simp[hx])) (by simpa using hi)
   simp only[List.set_cons_succ,List.flatMap_cons,this,yjt]
   have e1:(z.cells++zs.flatMap AV.cells).take ((i+1) * sz)=z.cells++(zs.flatMap AV.cells).take (i * sz):=by
    rw[List.take_append,List.take_of_length_le (by rw[hz,Nat.succ_mul];omega),hz,Nat.succ_mul,Nat.add_sub_cancel]
   have e2:(z.cells++zs.flatMap AV.cells).drop ((i+1) * sz+y.cells.length)=(zs.flatMap AV.cells).drop (i * sz+y.cells.length):=by
    rw[List.drop_append,List.drop_eq_nil_of_le (by rw[hz,Nat.succ_mul];omega),List.nil_append];congr 1;rw[hz,Nat.succ_mul];omega
   rw[e1,e2];simp[List.append_assoc]
theorem yjw {α:Type} (cs:List α) (off j n:Nat) (new:List α) (h1:j+new.length≤n) (h2:off+n≤cs.length) :
 yjt cs off (yjt ((cs.drop off).take n) j new)=yjt cs (off+j) new:=by
 have hl:((cs.drop off).take n).length=n:=by simp;omega
 apply List.ext_getElem?
 intro k
 rw[yju _ _ _ (by rw[yjv _ _ _ (by omega)];omega),yju _ _ _ (by omega),yjv _ _ _ (by omega),hl]
 by_cases hk:off≤k∧k < off+n
 · rw[if_pos hk,yju _ _ _ (by omega)]
   by_cases hk2:j≤k - off∧k - off < j+new.length
   · rw[if_pos hk2,if_pos (by omega)];congr 1;omega
   · rw[if_neg hk2,if_neg (by omega),List.getElem?_take,if_pos (by omega),List.getElem?_drop];congr 1;omega
 · rw[if_neg hk,yju _ _ _ (by omega),if_neg (by omega)]
theorem zf7 (cs:List AV):(AV.agg cs).cells=cs:=rfl
theorem flat_seg {sz:Nat} (xs:List AV) (i:Nat) (x:AV) (hlen:∀ x∈xs,x.cells.length=sz) (hi:xs[i]? = some x):((xs.flatMap AV.cells).drop (i * sz)).take sz=x.cells:=by
 have hx:=hlen x (List.mem_of_getElem? hi)
 apply List.ext_getElem?
 intro k
 rw[List.getElem?_take,List.getElem?_drop]
 by_cases hk:k < sz
 · rw[if_pos hk,zlm xs i x k hlen hi hk]
 · rw[if_neg hk,List.getElem?_eq_none (by omega)]
theorem zvu {w w':World} {base:Nat} {e:TypeId} {size:Nat} {v:Value} {n:Nat} {xs ys:List Value} {g:Nat} {cur:Array Value} {ty:TypeId} {o:Nat} {vs:List Value} (h:w.ownsRowW base e size v n xs) (hg:v.ownBlock=some g)
 (hh:w.heap[g]? = some (.cells cur ty (0,0))) (hw:w'.heap[g]? = some (.cells (yjt cur.toList o vs).toArray ty (0,0))) (hfit:o+vs.length≤xs.length) (hys:ys=yjt xs o vs):w'.ownsRowW base e size v n ys:=by
 subst hys
 rcases h.2 with ⟨hv,_⟩|⟨g',cap,cur',hv,hb,hh',hn,hc,hs,ht⟩
 · rw[hv]at hg;cases hg
 · have:g'=g:=by rw[hv]at hg;simpa [Value.ownBlock] using hg
   subst this
   rw[hh]at hh'
   simp only[Option.some.injEq,Obj.cells.injEq,and_true]at hh'
   obtain⟨rfl,rfl⟩:=hh'
   have hxl:=h.1
   have hmul:n * size≤cap * size:=Nat.mul_le_mul_right _ hn
   refine⟨by rw[yjv _ _ _ hfit];exact hxl,.inr ⟨g',cap,_,hv,hb,hw,hn,hc,?_,?_⟩⟩
   · simp only[List.size_toArray];rw[yjv _ _ _ (by simp;omega)];simpa using hs
   · rw[← ht]
     apply List.ext_getElem?
     intro k
     simp only[List.getElem?_take]
     rw[yju _ _ _ (by simp;omega),yju _ _ _ (by simp;omega)]
     by_cases hk:k < n * size
     · rw[if_pos hk]
       split
       · rfl
       · rw[List.getElem?_take,if_pos hk]
     · rw[if_neg hk]
       split
       · rename_i h2;rw[List.getElem?_eq_none (by omega)]
       · rw[List.getElem?_take,if_neg hk]
theorem ykx (hr:Rel G st E a) {t:TypeId} {p q:AV} {x y:Value} {st':St} (hx:VR E p x) (hy:VR E q y) (h:ykv G.P st t p q=some st') :
 ∃ E',(Instr.storeAt t x y).run G.P E.w=.ok () E'.w∧Rel G st' E' a:=by
 unfold ykv at h
 split at h
 case h_2=>cases h
 rename_i id k i j
 split at h
 case isFalse=>cases h
 rename_i hc
 obtain⟨hk,hsz,hok⟩:=hc
 obtain⟨hqv,hone⟩:=ztj hr hy hok
 have hyl:y.cells.size=q.cells.length:=by simpa using hqv.1.symm
 have hyl':y.cells.toList.length=q.cells.length:=hqv.1.symm
 cases hx with
 | rptr _ _ _ _ _ h1 h2 =>
  have hx:=h2 (by rw[hr.ver];exact hk)
  subst hx
  have hbk:=hr.blocks id
  have hstore:∀ E':Env,(storeCells ⟨(E.own id).blk,i * (E.own id).sz+j,none⟩ y.cells.toList 0).run G.P E.w=.ok () E'.w →
   (Instr.storeAt t (.pointer (some ⟨(E.own id).blk,i * (E.own id).sz+j,none⟩)) y).run G.P E.w=.ok () E'.w:=by
   intro E' he
   simp[Instr.storeAt,Instr.sureAddr,storeVar,yhn hsz,hyl,he]
  split at h
  · rename_i cs hh
    split at h
    case isFalse=>cases h
    rename_i hfit
    cases h
    obtain⟨rfl,hfit⟩:=hfit
    have hbk0:=hbk
    rw[hh]at hbk
    obtain⟨us,ty,hheap,hb1,hb2,hvs⟩:=hbk
    have hul:us.size=cs.length:=by simpa using hvs.1.symm
    obtain⟨E',he,hr'⟩:=hr.storeAt (id:=id) (blk':=.box (yjt cs j q.cells)) (g:=(E.own id).blk) (o:=j) (vs:=y.cells.toList) hheap (by rw[hh];rfl) (by rw[hyl',hul];exact hfit) hone
     (fun w' _ hw hle=>⟨_,ty,hw,hb1,hb2,by simpa using ((hvs.mono hle).splice (hqv.mono hle) hfit)⟩) rfl
    exact⟨E',hstore E' (by rw[Nat.zero_mul,Nat.zero_add];exact he),hr'⟩
  · rename_i e sz xs hh
    have hbk0:=hbk
    rw[hh]at hbk
    obtain⟨hsz',us,hown,hlen,hvs,hblk⟩:=hbk
    split at h
    case h_2=>cases h
    rename_i x hxi
    have hil:i < xs.length:=(List.getElem?_eq_some_iff.1 hxi).1
    have hxl:=hlen x (List.mem_of_getElem? hxi)
    have hul:us.length=xs.length * sz:=by rw[← hvs.1,zlo xs hlen]
    have hmul:i * sz+sz≤xs.length * sz:=by rw[← Nat.succ_mul];exact Nat.mul_le_mul_right _ hil
    -- the block
    have hgex:∃ g cur,(E.own id).val.ownBlock=some g∧E.w.heap[g]? = some (.cells cur e (0,0))∧us.length≤cur.size:=by
     rcases hown.2 with ⟨hv,hn⟩|⟨g,cap,cur,hv,_,hg,hn,_,hcs,_⟩
     · omega
     · exact⟨g,cur,by rw[hv];rfl,hg,by rw[hul];exact Nat.le_trans (Nat.mul_le_mul_right _ hn) hcs⟩
    obtain⟨g,cur,hgb,hheap,hcur⟩:=hgex
    obtain⟨hg1,hg2⟩:=hblk g hgb
    have fin:∀ (y':AV) (jj:Nat),y'.cells.length=sz→jj+q.cells.length≤sz→yjt (xs.flatMap AV.cells) (i * sz) y'.cells=yjt (xs.flatMap AV.cells) (i * sz+jj) q.cells→jj=j →
     ∃ E',(Instr.storeAt t (.pointer (some ⟨(E.own id).blk,i * (E.own id).sz+j,none⟩)) y).run G.P E.w=.ok () E'.w∧Rel G { st with h:=upd st.h id (.arr e sz (xs.set i y')) } E' a:=by
     intro y' jj hy'l hjj hspl hj
     subst hj
     obtain⟨E',he,hr'⟩:=hr.storeAt (id:=id) (blk':=.arr e sz (xs.set i y')) (g:=g) (o:=i * sz+jj) (vs:=y.cells.toList) hheap (by rw[hh];exact hgb) (by rw[hyl'];omega) hone
      (fun w' _ hw hle=>by
       refine⟨hsz',yjt us (i * sz+jj) y.cells.toList,?_,?_,?_,fun b hb=>hblk b hb⟩
       · rw[List.length_set]
         exact zvu hown hgb hheap hw (by rw[hyl'];omega) rfl
       · intro c hc
         rcases List.mem_or_eq_of_mem_set hc with h|h
         · exact hlen c h
         · subst h;exact hy'l
       · rw[flat_set xs i x y' hlen hxi hy'l,hspl]
         exact (hvs.mono hle).splice (hqv.mono hle) (by rw[zlo xs hlen];omega)) hgb
     exact⟨E',hstore E' (by rw[hsz',hg1];exact he),hr'⟩
    split at h
    · rename_i hj
      cases h
      exact fin q 0 hj.2 (by omega) (by rw[Nat.add_zero]) hj.1.symm
    · split at h
      · rename_i cs
        split at h
        case isFalse=>cases h
        rename_i hfit
        cases h
        simp only[zf7]at hxl
        refine fin (.agg (yjt cs j q.cells)) j (by simp only[zf7];rw[yjv _ _ _ hfit];exact hxl) (by omega) ?_ rfl
        have hseg:=flat_seg xs i _ hlen hxi
        simp only[zf7]at hseg ⊢
        rw[← hseg]
        exact yjw _ _ _ _ _ (by omega) (by rw[zlo xs hlen];exact hmul)
      · cases h
  · cases h
theorem zlp {α:Type} (c:List α) (h0:0 < c.length):∀ (n t:Nat),((List.replicate n c).flatten)[t]? = if t < n * c.length then c[t % c.length]? else none
 | 0,t=>by simp
 | n+1,t=>by
  rw[List.replicate_succ,List.flatten_cons]
  have hm:(n+1) * c.length=n * c.length+c.length:=Nat.succ_mul _ _
  by_cases ht:t < c.length
  · rw[List.getElem?_append_left ht,if_pos (by omega),Nat.mod_eq_of_lt ht]
  · rw[List.getElem?_append_right (by omega),zlp c h0 n (t - c.length)]
    have:(t - c.length) % c.length=t % c.length:=(Nat.mod_eq_sub_mod (by omega)).symm
    rw[this]
    by_cases h:t < (n+1) * c.length
    · rw[if_pos h,if_pos (by omega)]
    · rw[if_neg h,if_neg (by omega)]
theorem yru (z:Array Value) (h0:0 < z.size) (n:Nat):(Builtin.zeroCells z n).toList=(List.replicate n z.toList).flatten:=by
 apply List.ext_getElem?
 intro t
 rw[zlp _ (by simpa using h0)]
 simp only[Builtin.zeroCells,Array.toList_map,Array.toList_range,List.getElem?_map,Array.length_toList]
 by_cases ht:t < n * z.size
 · rw[if_pos ht,List.getElem?_range ht,Option.map_some]
   have hm:t % z.size < z.size:=Nat.mod_lt _ h0
   rw[getElem!_pos z (t % z.size) hm,Array.getElem?_toList,Array.getElem?_eq_getElem hm]
 · rw[if_neg ht,List.getElem?_eq_none (by simpa using Nat.le_of_not_lt ht),Option.map_none]
theorem zlk {sz lo hi:Nat} {xs:List AV} {A:AV} (hlen:∀ x∈xs,x.cells.length=sz) (hA:A.cells.length=sz) (hlh:lo≤hi) (hhx:hi≤xs.length) :
 (xs.take lo++List.replicate (hi - lo) A++xs.drop hi).flatMap AV.cells=yjt (xs.flatMap AV.cells) (lo * sz) ((List.replicate (hi - lo) A).flatMap AV.cells):=by
 have hrl:((List.replicate (hi - lo) A).flatMap AV.cells).length=(hi - lo) * sz:=by
  rw[zlo _ (sz:=sz) fun x hx=>by rw[List.eq_of_mem_replicate hx];exact hA];simp
 have hm:lo * sz+(hi - lo) * sz=hi * sz:=by rw[← Nat.add_mul];congr 1;omega
 unfold yjt
 rw[List.flatMap_append,List.flatMap_append,zlq hlen (by omega),zll hlen hhx,hrl,hm]
theorem rep_vrs (E:Env) (z:Value) (n:Nat):VRs E ((List.replicate n (AV.agg (yps z))).flatMap AV.cells) (List.replicate n z.cells.toList).flatten:=by
 have:(List.replicate n (AV.agg (yps z))).flatMap AV.cells=((List.replicate n z.cells.toList).flatten).map AV.v:=by
  rw[List.flatMap_def,List.map_replicate,List.map_flatten,List.map_replicate];rfl
 rw[this]
 refine⟨by simp,fun i c u hc hu=>?_⟩
 rw[List.getElem?_map,hu]at hc
 cases hc;exact .v u
theorem zgi (hr:Rel G st E a) {t ty e sz id lo hi:Nat} {f:Bool} {x z:Value} {xs:List AV} (hh:st.h id=.arr e sz xs) (hx:VR E (.osl id (st.ver id) lo hi f) x) (hlh:lo≤hi) (hhx:hi≤xs.length)
 (hte:tElem G.P t=some e) (hz:tZero G.P e=some z) (h1:z.cells.toList.all (·.oneCell')=true) (hzs:z.cells.size=sz) (hpos:0 < sz) :
 ∃ E',(Builtin.clear_ #[t] ty #[x]).run G.P E.w=.ok (.tuple #[]) E'.w∧Rel G { st with h:=upd st.h id (.arr e sz (xs.take lo++List.replicate (hi - lo) (.agg (yps z))++xs.drop hi)) } E' a:=by
 have hsame:xs.take lo++List.replicate (hi - lo) (AV.agg (yps z))++xs.drop hi=xs→Rel G { st with h:=upd st.h id (.arr e sz (xs.take lo++List.replicate (hi - lo) (.agg (yps z))++xs.drop hi)) } E a:=by
  intro he
  rw[he,← hh]
  have:({ st with h:=upd st.h id (st.h id) }:St)=st:=by
   have:upd st.h id (st.h id)=st.h:=by funext j;by_cases h:j=id<;>simp[upd,h]
   rw[this]
  rw[this];exact hr
 cases hx with
 | osl _ _ _ _ _ _ g1 g2 =>
  have hx:=g2 (by rw[hr.ver])
  subst hx
  have hb:=hr.blocks id
  rw[hh]at hb
  obtain⟨hsz',us,hown,hlen,hvs,hblk⟩:=hb
  rcases hown.2 with ⟨hv,hn⟩|⟨g,cap,cur,hv,hg0,hheap,hnc,hcm,hcs,ht⟩
  · have hxe:xs=[]:=List.eq_nil_of_length_eq_zero hn
    subst hxe
    have h0:hi=0:=by simpa using hhx
    have h01:lo=0:=by omega
    subst h0;subst h01
    refine⟨E,?_,hsame (by simp)⟩
    rw[hv,ylg]
    have:(if (if f=true then (0:Nat) else 0)=0 then (none:Option Addr) else Option.map (fun x:Addr=>x.add (0 * (E.own id).sz)) none)=none:=by split<;>rfl
    rw[this]
    simp[Builtin.clear_,run_underlying (ylr hte)]
  · by_cases he:hi=lo
    · refine⟨E,?_,hsame (by rw[he];simp)⟩
      rw[hv,ylg]
      have h00:hi - lo=0:=by omega
      rw[h00]
      generalize (if f=true then hi else cap)=C
      by_cases hC:C=lo
      · rw[if_pos hC];simp[Builtin.clear_,run_underlying (ylr hte)]
      · rw[if_neg hC,Option.map_some];simp[Builtin.clear_,run_underlying (ylr hte)]
    · have hne:¬ (if f=true then hi else cap)=lo:=by
       intro hc
       cases f<;>simp at hc<;>omega
      have hgb:(E.own id).val.ownBlock=some g:=by rw[hv];rfl
      obtain⟨hb1,hb2⟩:=hblk g hgb
      have hul:us.length=xs.length * sz:=hown.1
      have hAl:(AV.agg (yps z)).cells.length=sz:=by show (yps z).length=sz;simp[yps,hzs]
      have hvl:((List.replicate (hi - lo) z.cells.toList).flatten).length=(hi - lo) * sz:=by simp[hzs]
      have hm1:lo * sz+(hi - lo) * sz=hi * sz:=by rw[← Nat.add_mul];congr 1;omega
      have hm2:hi * sz≤xs.length * sz:=Nat.mul_le_mul_right _ hhx
      have hcur:us.length≤cur.size:=by rw[hul];exact Nat.le_trans (Nat.mul_le_mul_right _ hnc) hcs
      obtain⟨E',hrun,hr'⟩:=hr.storeAt (id:=id) (blk':=.arr e sz (xs.take lo++List.replicate (hi - lo) (.agg (yps z))++xs.drop hi)) (g:=g) (o:=lo * sz) (vs:=(List.replicate (hi - lo) z.cells.toList).flatten) hheap (by rw[hh];exact hgb) (by rw[hvl];omega)
       (fun v hv=>by
        obtain⟨l,hl,hvl⟩:=List.mem_flatten.1 hv
        rw[List.eq_of_mem_replicate hl]at hvl
        exact List.all_eq_true.1 h1 v hvl)
       (fun w' _ hw hle=>by
        refine⟨hsz',yjt us (lo * sz) (List.replicate (hi - lo) z.cells.toList).flatten,?_,?_,?_,fun b hb=>hblk b hb⟩
        · have hll:(xs.take lo++List.replicate (hi - lo) (AV.agg (yps z))++xs.drop hi).length=xs.length:=by simp;omega
          rw[hll]
          exact zvu hown hgb hheap hw (by rw[hvl];omega) rfl
        · intro c hc
          rcases List.mem_append.1 hc with hc|hc
          · rcases List.mem_append.1 hc with hc|hc
            · exact hlen c (List.mem_of_mem_take hc)
            · rw[List.eq_of_mem_replicate hc];exact hAl
          · exact hlen c (List.mem_of_mem_drop hc)
        · rw[zlk hlen hAl hlh hhx]
          refine (hvs.mono hle).splice (rep_vrs _ z _) ?_
          rw[zlo xs hlen,zlo _ (sz:=sz) fun x hx=>by rw[List.eq_of_mem_replicate hx];exact hAl]
          simp only[List.length_replicate];omega) hgb
      refine⟨E',?_,hr'⟩
      rw[hv,ylg,if_neg hne,Option.map_some,zbr,Nat.zero_add,hsz']
      obtain⟨m,hm⟩:∃ m,hi - lo=m+1:=⟨hi - lo - 1,by omega⟩
      rw[hm]at hrun ⊢
      simp only[Builtin.clear_,List.getElem?_toArray,List.getElem?_cons_zero,Sem.run_bind,run_underlying (ylr hte),Result.andThen_ok,yhs hz,yru _ (by omega:0 < z.cells.size)]
      simp[hrun,run_underlying (ylr hte),yhs hz,yru _ (by omega:0 < z.cells.size)]
def zfm (s:ByteArray):List AV:=s.data.toList.map fun b=>.v (.int .u8 b.toNat)
theorem zfo (s:ByteArray):(zfm s).length=s.size:=by
 unfold zfm
 rw[List.length_map,Array.length_toList];rfl
theorem zfn (s:ByteArray):(zfm s).flatMap AV.cells=zfm s:=by
 unfold zfm
 generalize s.data.toList=l
 induction l with
 | nil=>rfl
 | cons b l ih=>rw[List.map_cons,List.flatMap_cons,ih];rfl
theorem zfq (E:Env) (s:ByteArray):VRs E ((zfm s).flatMap AV.cells) (Lib.strCells s):=by
 rw[zfn]
 unfold zfm Lib.strCells
 refine⟨by simp,fun i a u ha hu=>?_⟩
 simp only[List.getElem?_map,Option.map_eq_some_iff]at ha hu
 obtain⟨b,hb,rfl⟩:=ha
 obtain⟨b',hb',rfl⟩:=hu
 rw[hb]at hb';cases hb'
 exact .v _
theorem yg3 {P:Program} (w:World) (base:Nat) (t u ty e:TypeId) (i:TypeInfo) (ht:P.underlying t=some (.slice e)) (hu:P.underlying u=some .string) (hi:P.info? e=some i) (hz:i.zero=some (.int .u8 0))
 (hsize:i.size=1) (hby:i.bytes=1) (v:Value) (n:Nat) (xs:List Value) (hown:w.ownsRowW base e 1 v n xs) (s:ByteArray)
 (h63:n+s.size≤maxLen) (hbytes:n+s.size≤140737488355328) (hbase:base≤w.heap.size) :
 ∃ v' w',(Builtin.append_ #[t,u] ty #[v,.string s]).run P w=.ok v' w'∧w'.ownsRowW base e 1 v' (n+s.size) (xs++Lib.strCells s)∧w.grownBy w' v.ownBlock ∧
  (∀ b,v'.ownBlock=some b→v.ownBlock=some b∨w.heap.size≤b):=by
 have hxl:xs.length=n:=by simpa using hown.1
 rcases hown.2 with ⟨rfl,rfl⟩|⟨g,cap,cur,rfl,hbg,hg,hnc,hcm,hcs,htake⟩
 · have hx:xs=[]:=List.eq_nil_of_length_eq_zero hxl
   subst hx
   obtain⟨v',w',hr,ho,hgr,hnil⟩:=Lib.run_append_own_string w w.heap.size t u ty e i ht hu hi hz hsize hby (.slice none 0 0) 0 [] (World.ownsRow_nil _ _ _ _) s h63 hbytes (Nat.le_refl _)
   exact⟨v',w',hr,zvt ho.w hbase,hgr,fun b hb=>.inr (ho.lt b hb).1⟩
 · have hcs':cap≤cur.size:=by simpa using hcs
   by_cases hroom:n+s.size≤cap
   · have hr:=Lib.run_append_room_string (P:=P) w t u ty e i ht hu hi hsize g n cap cur hg s hroom (by omega)
     have hlen:(xs++Lib.strCells s).length=(n+s.size) * 1:=by rw[List.length_append,hxl,Lib.strCells_length,Nat.mul_one]
     refine⟨_,_,hr,⟨hlen,.inr ⟨g,cap,_,rfl,hbg,setRow_heap w g cur _ e _ hg,hroom,hcm,?_,?_⟩⟩,⟨rfl,rfl,rfl,by simp,fun k _ hk=>setRow_other w g k _ (fun e=>hk (by simp[Value.ownBlock,e]))⟩,fun b hb=>.inl hb⟩
     · simp only[List.size_toArray,List.length_append,List.length_take,List.length_drop,Array.length_toList,Lib.strCells_length]
       omega
     · have ht':cur.toList.take n=xs:=by simpa using htake
       rw[ht',← hlen]
       exact List.take_left
   · have holds:∀ j u,xs[j]? = some u→w.cell? ((⟨g,0,none⟩:Addr).add j)=some u:=hown.cells (g:=g) rfl
     have hr:=Lib.run_append_grow_string (P:=P) w t u ty e i (.int .u8 0) ht hu hi hz ⟨g,0,none⟩ n cap xs (by rw[hsize];simpa using hxl) holds s (by omega) (by unfold maxLen at h63;omega) (by rw[hby];exact growslice_fits (by omega) (by omega))
     have hge:=grownCap_ge w (n+s.size) cap e
     have hcm':grownCap w (n+s.size) cap e≤maxLen:=grownCap_le_maxLen w (n+s.size) cap e h63
     have hlen:(xs++Lib.strCells s).length=(n+s.size) * 1:=by rw[List.length_append,hxl,Lib.strCells_length,Nat.mul_one]
     refine⟨_,_,hr,⟨hlen,.inr ⟨w.heap.size,_,_,rfl,hbase,heap_alloc_new w.drew _,hge,hcm',?_,?_⟩⟩,⟨rfl,rfl,rfl,by simp,fun k hk _=>heap_alloc_old w.drew _ hk⟩,fun b hb=>?_⟩
     · have hz1:(Value.int IntKind.u8 0).cells.size=1:=rfl
       simp only[Array.size_append,List.size_toArray,size_zeroCells,hz1,hxl,Lib.strCells_length]
       omega
     · simp only[Array.toList_append,List.append_assoc]
       rw[← List.append_assoc,← hlen]
       exact List.take_left
     · simp only[Value.ownBlock,Option.some.injEq]at hb
       exact .inr (by omega)
theorem zdy (hr:Rel G st E a) {t u ty:TypeId} {e d id:Nat} {p:AV} {x:Value} {s:ByteArray} {xs:List AV} (hx:VR E p x)
 (he:tElem G.P t=some e) (hu:tStr G.P u=true) (hs:tSize G.P e=some 1) (hb:ylk G.P e=some 1) (hz:tZero G.P e=some (.int .u8 0))
 (hd:zib st d e 1 p=some (id,xs)) (hn:xs.length+s.size≤140737488355328) :
 ∃ x' E',(Builtin.append_ #[t,u] ty #[x,.string s]).run G.P E.w=.ok x' E'.w∧Rel G (st.setArr id e 1 (xs++zfm s)) E' a∧VR E' (.ref id (st.ver id+1)) x':=by
 have hut:=ylr he
 obtain⟨i,hi,hisz⟩:=Option.map_eq_some_iff.1 hs
 have hiby:i.bytes=1:=by have:=hb;unfold ylk at this;simpa [hi] using this
 have hiz:i.zero=some (.int .u8 0):=by unfold tZero at hz;simpa [hi] using hz
 have hdest:∃ us,E.w.ownsRowW G.w0.heap.size e 1 x xs.length us∧VRs E (xs.flatMap AV.cells) us∧(∀ c∈xs,c.cells.length=1)∧(∀ b,x.ownBlock=some b→(st.h id).at (E.own id)=some b∧¬ E.S b):=by
  unfold zib at hd
  split at hd
  · rename_i id' k
    split at hd
    case isFalse=>cases hd
    rename_i hk
    split at hd
    · rename_i e' sz' xs' hh
      split at hd
      case isFalse=>cases hd
      rename_i hes
      obtain⟨rfl,rfl⟩:=hes
      cases hd
      cases hx with
      | ref _ _ _ h1 h2 =>
       rw[h2 (by rw[hr.ver];exact hk)]
       have hbk:=hr.blocks id
       rw[hh]at hbk
       obtain⟨hsz',us,hown,hlen,hvs,hblk⟩:=hbk
       exact⟨us,hown,hvs,hlen,fun b hb=>⟨by rw[hh];exact hb,(hblk b hb).2⟩⟩
    · cases hd
  · cases hd
    rw[hx.v_inv]
    exact⟨[],World.ownsRowW_nil _ _ _ _,⟨rfl,by simp⟩,by simp,fun b hb=>by simp[Value.ownBlock]at hb⟩
  · cases hd
 obtain⟨us,hown,hxv,hxl,hxb⟩:=hdest
 obtain⟨x',w',hr1,ho,hg,hsame⟩:=yg3 E.w G.w0.heap.size t u ty e i hut (yoj hu) hi hiz hisz hiby x _ us hown s (by unfold maxLen;omega) hn hr.below.size
 have hvs':=zfq E s
 let o:Own:=⟨x',(x'.ownBlock).getD 0,1⟩
 let E':Env:={ ver:=upd E.ver id (st.ver id+1),own:=upd E.own id o,S:=E.S,w:=w' }
 have hve:E.ver id=st.ver id:=by rw[hr.ver]
 have hle:E.Le E':=by
  refine⟨fun _ h=>h,fun b hb=>hg.block b (hr.Slt b hb) fun he=>?_,fun j=>by by_cases h:j=id<;>simp[E',upd,h,hve],fun j hj=>?_⟩
  · exact (hxb b he.symm).2 hb
  · by_cases h:j=id
    · subst h;simp[E',upd,hve]at hj
    · simp[E',upd,h]
 have hbk:∀ b,x'.ownBlock=some b→(st.h id).at (E.own id)=some b∨E.w.heap.size≤b:=fun b hb=>(hsame b hb).imp (fun h=>(hxb b h).1) (fun h=>h)
 refine⟨x',E',hr1,?_,.ref _ _ _ (by simp[E',upd]) fun _=>by simp[E',upd,o]⟩
 refine hr.own id (.arr e 1 (xs++zfm s)) o (st.ver id+1) rfl (by omega) rfl (fun h=>by omega) rfl ?_ hg.size (fun b hb hne=>hg.block b hb fun he=>hne (hxb b he.symm).1) ?_ hbk
 · exact hr.below.grown hg hr.below.size fun k hk=>(hown.lt k hk).1
 · refine⟨rfl,us++Lib.strCells s,by simpa [zfo] using ho,fun c hc=>?_,?_,fun b hb=>⟨by simp only[o]at hb ⊢;rw[hb];rfl,fun hS=>?_⟩⟩
   · rcases List.mem_append.1 hc with h|h
     · exact hxl c h
     · unfold zfm at h
       obtain⟨b,_,rfl⟩:=List.mem_map.1 h
       rfl
   · rw[List.flatMap_append]
     have hxv':=hxv.mono hle
     have hvs'':=hvs'.mono hle
     refine⟨by simp[hxv'.1,hvs''.1],fun k c u hc hu'=>?_⟩
     by_cases hk:k < (xs.flatMap AV.cells).length
     · rw[List.getElem?_append_left hk]at hc
       rw[List.getElem?_append_left (by rw[← hxv.1];exact hk)]at hu'
       exact hxv'.2 k c u hc hu'
     · rw[List.getElem?_append_right (by omega)]at hc
       rw[List.getElem?_append_right (by rw[← hxv.1];omega),← hxv.1]at hu'
       exact hvs''.2 _ c u hc hu'
   · rcases hsame b hb with h|h
     · exact (hxb b h).2 hS
     · have:=hr.Slt b hS;omega
theorem zhk (hr:Rel G st E a) {t t' ty:TypeId} {e sz id:Nat} {q:AV} {x y:Value} {xs ys:List AV} (hh:st.h id=.arr e sz xs) (hx:VR E (.ref id (st.ver id)) x) (hy:VR E q y)
 (hte:tElem G.P t=some e) (hs:tSize G.P e=some sz) (hsrc:srcAV st sz q=some ys) (hok:∀ c∈ys,zth st c=true) :
 ∃ E',(Builtin.copy_ #[t,t'] ty #[x,y]).run G.P E.w=.ok (.int .i64 ((min ys.length xs.length:Nat):Int)) E'.w∧Rel G { st with h:=upd st.h id (.arr e sz (ys.take xs.length++xs.drop ys.length)) } E' a:=by
 obtain⟨hyl,hysrc⟩:=yj3 hr hy hsrc
 have hu:=ylr hte
 obtain⟨i,hi,hisz⟩:=Option.map_eq_some_iff.1 hs
 have hsame:ys.take xs.length++xs.drop ys.length=xs→Rel G { st with h:=upd st.h id (.arr e sz (ys.take xs.length++xs.drop ys.length)) } E a:=by
  intro he
  rw[he,← hh]
  have:({ st with h:=upd st.h id (st.h id) }:St)=st:=by
   have:upd st.h id (st.h id)=st.h:=by funext j;by_cases h:j=id<;>simp[upd,h]
   rw[this]
  rw[this];exact hr
 cases hx with
 | ref _ _ _ g1 g2 =>
  have hx:=g2 (by rw[hr.ver])
  subst hx
  have hb:=hr.blocks id
  rw[hh]at hb
  obtain⟨hsz',us,hown,hlen,hvs,hblk⟩:=hb
  have hxlen:∃ ad cap,(E.own id).val=.slice ad xs.length cap:=by
   rcases hown.2 with ⟨hv,hn⟩|⟨g,cap,cur,hv,_⟩
   · exact⟨none,0,by rw[hv,hn]⟩
   · exact⟨_,cap,hv⟩
  by_cases h0:min ys.length xs.length=0
  · have hxs:ys.take xs.length++xs.drop ys.length=xs:=by
     rcases (by omega:ys.length=0∨xs.length=0) with h|h
     · have:=List.eq_nil_of_length_eq_zero h;subst this;simp
     · have:=List.eq_nil_of_length_eq_zero h;subst this;simp
    refine⟨E,?_,hsame hxs⟩
    obtain⟨ad,cap,hv⟩:=hxlen
    rw[hv,h0]
    have hf:∀ y0,(∃ ay cy,y0=.slice ay ys.length cy)→(Builtin.firstCells i.size 0 y0).run G.P E.w=.ok #[] E.w:=by
     rintro _ ⟨ay,cy,rfl⟩
     cases ay with
     | none=>simp[Builtin.firstCells]
     | some a0 =>
      have:=run_firstCells_some (P:=G.P) E.w i.size 0 a0 ys.length cy [] (by simp) (by simp)
      simpa using this
    have hyv:∃ ay cy,y=.slice ay ys.length cy:=by
     rcases hysrc with ⟨rfl,rfl⟩|⟨ay,c,us',rfl,_⟩
     · exact⟨none,0,rfl⟩
     · exact⟨_,_,rfl⟩
    have hf:=hf y hyv
    obtain⟨ay,cy,rfl⟩:=hyv
    cases ad with
    | none=>simp[Builtin.copy_,run_underlying hu,Builtin.lenOf,h0,sizeOf,typeInfo,hi,hf,goInt]
    | some a0=>simp[Builtin.copy_,run_underlying hu,Builtin.lenOf,h0,sizeOf,typeInfo,hi,hf,goInt,storeCells]
  · rcases hysrc with ⟨rfl,rfl⟩|⟨ay,cy,us',rfl,hul',hcell,hvs'⟩
    · simp at h0
    rcases hown.2 with ⟨hv,hn⟩|⟨g,cap,cur,hv,hg0,hheap,hnc,hcm,hcs,ht⟩
    · omega
    obtain⟨n,hn⟩:∃ n,n=min ys.length xs.length:=⟨_,rfl⟩
    have hny:n≤ys.length:=by omega
    have hnx:n≤xs.length:=by omega
    have hgb:(E.own id).val.ownBlock=some g:=by rw[hv];rfl
    have hul:us.length=xs.length * sz:=hown.1
    have hm1:n * sz≤xs.length * sz:=Nat.mul_le_mul_right _ hnx
    have hm2:n * sz≤ys.length * sz:=Nat.mul_le_mul_right _ hny
    have hcsl:(us'.take (n * sz)).length=n * sz:=by rw[List.length_take];omega
    have htk:ys.take xs.length=ys.take n:=by
     rcases Nat.le_total ys.length xs.length with h|h
     · rw[List.take_of_length_le h,List.take_of_length_le (by omega)]
     · congr 1;omega
    have hdr:xs.drop ys.length=xs.drop n:=by
     rcases Nat.le_total ys.length xs.length with h|h
     · congr 1;omega
     · rw[List.drop_of_length_le h,List.drop_of_length_le (by omega)]
    have hone:∀ v∈us',v.oneCell'=true:=by
     intro u hu'
     obtain⟨k,hk⟩:=List.mem_iff_getElem?.1 hu'
     have hlt:k < (ys.flatMap AV.cells).length:=by rw[hvs'.1];exact (List.getElem?_eq_some_iff.1 hk).1
     have hck:=List.getElem?_eq_getElem hlt
     obtain⟨yy,hyy,hmem⟩:=List.mem_flatMap.1 (List.getElem_mem hlt)
     have:=hok yy hyy
     simp only[zth,List.all_eq_true]at this
     exact (ztg hr (hvs'.2 k _ u hck hk) (this _ hmem)).1
    have hcurl:us.length≤cur.size:=by rw[hul];exact Nat.le_trans (Nat.mul_le_mul_right _ hnc) hcs
    obtain⟨E',hrun,hr'⟩:=hr.storeAt (id:=id) (blk':=.arr e sz (ys.take xs.length++xs.drop ys.length)) (g:=g) (o:=0) (vs:=us'.take (n * sz)) hheap (by rw[hh];exact hgb) (by rw[hcsl];omega)
     (fun v hv=>hone v (List.mem_of_mem_take hv))
     (fun w' _ hw hle=>by
      refine⟨hsz',yjt us 0 (us'.take (n * sz)),?_,?_,?_,fun b hb=>hblk b hb⟩
      · have hll:(ys.take xs.length++xs.drop ys.length).length=xs.length:=by simp;omega
        rw[hll]
        exact zvu hown hgb hheap hw (by rw[hcsl];omega) rfl
      · intro c hc
        rcases List.mem_append.1 hc with hc|hc
        · exact hyl c (List.mem_of_mem_take hc)
        · exact hlen c (List.mem_of_mem_drop hc)
      · rw[htk,hdr,List.flatMap_append,zlq hyl hny,zll hlen hnx]
        have hfy:((ys.flatMap AV.cells).take (n * sz)).length=n * sz:=by rw[List.length_take,zlo ys hyl];omega
        have:(ys.flatMap AV.cells).take (n * sz)++(xs.flatMap AV.cells).drop (n * sz)=yjt (xs.flatMap AV.cells) 0 ((ys.flatMap AV.cells).take (n * sz)):=by
         unfold yjt;rw[hfy];simp
        rw[this]
        have hvt:VRs E ((ys.flatMap AV.cells).take (n * sz)) (us'.take (n * sz)):=by
         refine⟨by rw[hfy,hcsl],fun k c u hc hu=>?_⟩
         rw[List.getElem?_take]at hc hu
         split at hc
         · rename_i hk;rw[if_pos hk]at hu;exact hvs'.2 k c u hc hu
         · cases hc
        refine (hvs.mono hle).splice (hvt.mono hle) ?_
        rw[hfy,zlo xs hlen];omega) hgb
    refine⟨E',?_,hr'⟩
    have hf:=run_firstCells_some (P:=G.P) E.w i.size n ay ys.length cy (us'.take (n * sz)) (by rw[hcsl,hisz]) (fun j v hjv=>by
     rw[List.getElem?_take]at hjv
     split at hjv
     · exact hcell j v hjv
     · cases hjv)
    have hmin:Nat.min ys.length xs.length=n:=hn.symm
    rw[hv,← hn]
    simp[Builtin.copy_,run_underlying hu,Builtin.lenOf,hmin,sizeOf,typeInfo,hi,hf,goInt,hrun]
end
end Go.Abs
