/- Several texts of the proof in one: Fh. No condition. -/
import Derived.Test.YthjmjdleecmaeaaGreatL05
set_option linter.unusedSimpArgs false
set_option linter.unusedVariables false
set_option maxHeartbeats 4000000
set_option maxRecDepth 8000
namespace Go.Abs
open Go Go.RowKit
def zg3 (d i:Nat):Nat:=d+1000 * (i+1)
def St.takeComps (d:Nat):Nat→List AV→St→St×List AV
 | _,[],st=>(st,[])
 | i,.fresh e sz xs::rs,st =>
  let st':=st.setArr (zg3 d i) e sz xs
  let y:=St.takeComps d (i+1) rs st'
  (y.1,.ref (zg3 d i) (st.ver (zg3 d i)+1)::y.2)
 | i,r::rs,st =>
  let y:=St.takeComps d (i+1) rs st
  (y.1,r::y.2)
def St.take (d:Nat) (r:AV) (st:St):St×AV :=
 match r with
 | .fresh e sz xs=>(st.setArr d e sz xs,.ref d (st.ver d+1))
 | .tup rs=>let y:=St.takeComps d 0 rs st;(y.1,.tup y.2)
 | r=>(st,r)
section
variable {G:Ctx} {st:St} {E:Env} {a:Act}
theorem Rel.adopt (hr:Rel G st E a) {id e sz:Nat} {xs:List AV} {v:Value} {us:List Value} {B:Nat} (hB:G.w0.heap.size≤B) (hown:E.w.ownsRowW B e sz v xs.length us) (hlen:∀ x∈xs,x.cells.length=sz) (hvs:VRs E (xs.flatMap AV.cells) us)
 (hS:∀ b,v.ownBlock=some b→¬ E.S b) (hat:∀ b,v.ownBlock=some b→∀ j,(st.h j).at (E.own j)≠some b) :
 ∃ E',E'.w=E.w∧E'.S=E.S∧E.Le E'∧(∀ j,j≠id→E'.own j=E.own j)∧(E'.own id).val=v∧Rel G (st.setArr id e sz xs) E' a∧VR E' (.ref id (st.ver id+1)) v:=by
 let o:Own:=⟨v,(v.ownBlock).getD 0,sz⟩
 have hve:E.ver id=st.ver id:=by rw[hr.ver]
 have hle:E.Le { E with ver:=upd E.ver id (st.ver id+1),own:=upd E.own id o } :=
  ⟨fun _ h=>h,fun _ _=>rfl,fun j=>by by_cases h:j=id<;>simp[upd,h,hve],fun j hj=>by
   by_cases h:j=id
   · subst h;simp[upd,hve]at hj
   · simp[upd,h]⟩
 refine⟨{ E with ver:=upd E.ver id (st.ver id+1),own:=upd E.own id o },rfl,rfl,hle,fun j hj=>by simp[upd,hj],by simp[upd,o],?_,.ref _ _ _ (by simp[upd]) fun _=>by simp[upd,o]⟩
 refine hr.own0 id (.arr e sz xs) o (st.ver id+1) rfl (by omega) rfl (fun h=>by omega) rfl hr.below (Nat.le_refl _) (fun _ _ _=>rfl) ?_ fun b hb j hj=>hat b hb j
 exact⟨rfl,us,zvt hown hB,hlen,hvs.mono hle,fun b hb=>⟨by simp only[o]at hb ⊢;rw[hb];rfl,hS b hb⟩⟩
theorem Rel.afterCall (hr:Rel G st E a) {w':World} {S':Nat→Prop} (hb:Below E.w.heap.size E.w w') (h1:∀ b,E.S b→S' b) (h2:∀ b,S' b→E.S b∨E.w.heap.size≤b) (h3:∀ b,S' b→b < w'.heap.size) :
 Rel G st { E with S:=S',w:=w' } a∧E.Le { E with S:=S',w:=w' }:=by
 have hle:E.Le { E with S:=S',w:=w' }:=⟨h1,fun b hS=>hb.block b (hr.Slt b hS),fun _=>Nat.le_refl _,fun _ _=>rfl⟩
 exact⟨hr.later hle rfl (hr.below.trans (hb.mono hr.below.size)) h3 h2 fun b hb'=>hb.block b hb',hle⟩
theorem yot {B:Nat} (hB:G.w0.heap.size≤B):∀ (rs:List AV) (i d:Nat) (st:St) (E:Env) (us:List Value),Rel G st E a→rs.length=us.length→(∀ r∈rs,zat r) →
 (∀ (k:Nat) r u,rs[k]? = some r→us[k]? = some u→RR1 (env0 E.S E.w) B r u) →
 (∀ (j k:Nat) r r' u u' b,j≠k→rs[j]? = some r→rs[k]? = some r'→us[j]? = some u→us[k]? = some u'→r.isFresh=true→r'.isFresh=true→u.ownBlock=some b→u'.ownBlock≠some b) →
 (∀ (k:Nat) r u b,rs[k]? = some r→us[k]? = some u→r.isFresh=true→u.ownBlock=some b→∀ j,(st.h j).at (E.own j)≠some b) →
 ∃ E',E'.w=E.w∧E.Le E'∧Rel G (St.takeComps d i rs st).1 E' a∧(St.takeComps d i rs st).2.length=us.length∧(∀ (k:Nat) r u,(St.takeComps d i rs st).2[k]? = some r→us[k]? = some u→VR E' r u) ∧
  (∀ j,(∀ k,j≠zg3 d (i+k))→E'.own j=E.own j∧E'.ver j=E.ver j)
 | [],i,d,st,E,us,hr,hl,_,_,_,_=>⟨E,rfl,.refl E,hr,by simpa [St.takeComps] using hl,by simp[St.takeComps],fun _ _=>⟨rfl,rfl⟩⟩
 | r::rs,i,d,st,E,[],_,hl,_,_,_,_=>by simp at hl
 | r::rs,i,d,st,E,u::us,hr,hl,hp,hrr,hd,hat=>by
  have h0:=hrr 0 r u rfl rfl
  have hl':rs.length=us.length:=by simpa using hl
  by_cases hf:∃ e sz xs,r=.fresh e sz xs
  · obtain⟨e,sz,xs,rfl⟩:=hf
    obtain⟨vs,g1,g2,g3,g4⟩:=h0
    have g3':VRs E (xs.flatMap AV.cells) vs:=⟨g3.1,fun k c v hc hv=>by
     obtain⟨y,hy,hm⟩:=List.mem_flatMap.1 (List.mem_of_getElem? hc)
     exact (hp (.fresh e sz xs) (by simp) y hy c hm).of0 (g3.2 k c v hc hv)⟩
    obtain⟨E1,hw,hS,hle,hkeep,hval,hrel,hv⟩:=hr.adopt (id:=zg3 d i) hB g1 g2 g3' g4 fun b hb=>hat 0 _ u b rfl rfl rfl hb
    obtain⟨E2,hw2,hle2,hrel2,hlen2,hvr2,hkeep2⟩:=yot hB rs (i+1) d (st.setArr (zg3 d i) e sz xs) E1 us hrel hl' (fun r hr=>hp r (by simp[hr]))
     (fun k r u hk hu=>by rw[hS,hw];exact hrr (k+1) r u (by simpa using hk) (by simpa using hu))
     (fun j k r r' u u' b hjk hj hk hu hu' hf hf' hb=>hd (j+1) (k+1) r r' u u' b (by omega) (by simpa using hj) (by simpa using hk) (by simpa using hu) (by simpa using hu') hf hf' hb)
     (fun k r u' b hk hu hf hb j=>by
      by_cases hj:j=zg3 d i
      · subst hj
        simp only[St.setArr,upd,if_true,Blk.at,hval]
        intro hb'
        exact hd 0 (k+1) _ r u u' b (by omega) rfl (by simpa using hk) rfl (by simpa using hu) rfl hf hb' hb
      · simp only[St.setArr,upd,hj,if_false]
        rw[hkeep j hj]
        exact hat (k+1) r u' b (by simpa using hk) (by simpa using hu) hf hb j)
    have hnot:∀ k,zg3 d i≠zg3 d (i+1+k):=fun k=>by simp[zg3];omega
    have hver1:∀ j,j≠zg3 d i→E1.ver j=E.ver j:=fun j hj=>by rw[hrel.ver,hr.ver];simp[St.setArr,upd,hj]
    refine⟨E2,by rw[hw2,hw],hle.trans hle2,hrel2,by simp[St.takeComps,hlen2],fun k r' u' hk hu'=>?_,fun j hj=>?_⟩
    · cases k with
      | zero=>simp[St.takeComps]at hk hu';subst hk;subst hu';exact hv.mono hle2
      | succ k=>exact hvr2 k r' u' (by simpa [St.takeComps] using hk) (by simpa using hu')
    · have h1:=hkeep2 j fun k=>by have:=hj (k+1);rwa [show i+(k+1)=i+1+k from by omega]at this
      have h2:j≠zg3 d i:=by simpa using hj 0
      exact⟨h1.1.trans (hkeep j h2),h1.2.trans (hver1 j h2)⟩
  · have htk:St.takeComps d i (r::rs) st=((St.takeComps d (i+1) rs st).1,r::(St.takeComps d (i+1) rs st).2):=by
     cases r<;>first|rfl|exact absurd ⟨_,_,_,rfl⟩ hf
    have hnf:r.isFresh=false:=by cases r<;>first|rfl|exact absurd ⟨_,_,_,rfl⟩ hf
    have hpr:Pure r:=by have:=hp r (by simp);cases r<;>first|exact this|exact absurd ⟨_,_,_,rfl⟩ hf
    obtain⟨E2,hw2,hle2,hrel2,hlen2,hvr2,hkeep2⟩:=yot hB rs (i+1) d st E us hr hl' (fun r hr=>hp r (by simp[hr]))
     (fun k r u hk hu=>hrr (k+1) r u (by simpa using hk) (by simpa using hu))
     (fun j k r r' u u' b hjk hj hk hu hu' hf hf' hb=>hd (j+1) (k+1) r r' u u' b (by omega) (by simpa using hj) (by simpa using hk) (by simpa using hu) (by simpa using hu') hf hf' hb)
     (fun k r u' b hk hu hf hb j=>hat (k+1) r u' b (by simpa using hk) (by simpa using hu) hf hb j)
    rw[htk]
    refine⟨E2,hw2,hle2,hrel2,by simp[hlen2],fun k r' u' hk hu'=>?_,fun j hj=>?_⟩
    · cases k with
      | zero=>simp at hk hu';subst hk;subst hu';exact (hpr.of0 (h0.isFresh_false hnf)).mono hle2
      | succ k=>exact hvr2 k r' u' (by simpa using hk) (by simpa using hu')
    · exact hkeep2 j fun k=>by have:=hj (k+1);rwa [show i+(k+1)=i+1+k from by omega]at this
theorem Rel.take (hr:Rel G st E a) {r:AV} {v:Value} {B:Nat} (hB:G.w0.heap.size≤B) (hp:PureR r) (hrr:RR (env0 E.S E.w) B r v) (hold:∀ j b,(st.h j).at (E.own j)=some b→b < B) (d:Nat) :
 ∃ E',E'.w=E.w∧E.Le E'∧Rel G (St.take d r st).1 E' a∧VR E' (St.take d r st).2 v:=by
 by_cases hf:∃ e sz xs,r=.fresh e sz xs
 · obtain⟨e,sz,xs,rfl⟩:=hf
   obtain⟨vs,g1,g2,g3,g4⟩:=hrr
   have g3':VRs E (xs.flatMap AV.cells) vs:=⟨g3.1,fun k c v hc hv=>by
    obtain⟨y,hy,hm⟩:=List.mem_flatMap.1 (List.mem_of_getElem? hc)
    exact (hp y hy c hm).of0 (g3.2 k c v hc hv)⟩
   obtain⟨E1,hw,hS,hle,hkeep,hval,hrel,hv⟩:=hr.adopt (id:=d) hB g1 g2 g3' g4 fun b hb j hj=>by
    have h1:=hold j b hj
    have h2:=(g1.lt b hb).1
    omega
   exact⟨E1,hw,hle,hrel,hv⟩
 · by_cases ht:∃ rs,r=.tup rs
   · obtain⟨rs,rfl⟩:=ht
     obtain⟨us,rfl,hl,h1,h2⟩:=hrr
     have hget:∀ (k:Nat) u,us.toList[k]? = some u→us.getD k undef=u:=fun k u hu=>by
      rw[Array.getElem?_toList]at hu;simp[Array.getD_eq_getD_getElem?,hu]
     obtain⟨E',hw,hle,hrel,hlen,hvr,_⟩:=yot (G:=G) (a:=a) hB rs 0 d st E us.toList hr (by simpa using hl) hp (fun k r u hk hu=>by rw[← hget k u hu];exact h1 k r hk)
      (fun j k r r' u u' b hjk hj hk hu hu' hf hf' hb=>by rw[← hget j u hu]at hb;rw[← hget k u' hu'];exact h2 j k r r' b hjk hj hk hf hf' hb)
      (fun k r u b hk hu hf hb j hj=>by
       have h3:=hold j b hj
       have h4:=h1 k r hk
       rw[hget k u hu]at h4
       cases r<;>first|cases hf|skip
       obtain⟨vs,g1,_⟩:=h4
       have:=(g1.lt b hb).1
       omega)
     refine⟨E',hw,hle,hrel,.tup _ us (by simpa using hlen) fun i c hi=>?_⟩
     have hi':i < us.toList.length:=by rw[← hlen];exact (List.getElem?_eq_some_iff.1 hi).1
     have:=hvr i c _ hi (List.getElem?_eq_getElem hi')
     rwa [← hget i _ (List.getElem?_eq_getElem hi')]at this
   · have hk:St.take d r st=(st,r):=by cases r<;>first|rfl|exact absurd ⟨_,_,_,rfl⟩ hf|exact absurd ⟨_,rfl⟩ ht
     have hpr:Pure r:=by cases r<;>first|exact hp|exact absurd ⟨_,_,_,rfl⟩ hf|exact absurd ⟨_,rfl⟩ ht
     have hv:VR (env0 E.S E.w) r v:=by cases r<;>first|exact hrr|exact absurd ⟨_,_,_,rfl⟩ hf|exact absurd ⟨_,rfl⟩ ht
     rw[hk]
     exact⟨E,rfl,.refl E,hr,hpr.of0 hv⟩
def zfa (st:St):AV→AV
 | .ref id k=>if k=st.ver id then
  match st.h id with
  | .arr _ sz xs=>.lst sz xs
  | .map es clk=>.mapv es clk
  | .amap m=>.amapv m.f
  | _=>.junk
  else .junk
 | p=>p
def zfc (st:St):AV→AV
 | .rptr id k i j=>if k=st.ver id then
  match st.h id with
  | .box cs=>if i=0 then .eptr (cs.map (zfa st)) j else .junk
  | .arr _ _ xs=>match xs[i]? with
   | some x=>.eptr x.cells j
   | none=>.junk
  | _=>.junk
  else .junk
 | p=>zfa st p
def ze9 (st:St):AV→AV
 | .fn f first captured=>.fn f (first.map (zfc st)) (captured.map (zfc st))
 | .iface t x=>.iface t (zfc st x)
 | p=>zfc st p
def Env.all (E:Env):Env:={ E with S:=fun b=>b < E.w.heap.size }
theorem Rel.le_all (hr:Rel G st E a):E.Le E.all:=⟨fun b h=>hr.Slt b h,fun _ _=>rfl,fun _=>Nat.le_refl _,fun _ _=>rfl⟩
theorem zfb (hr:Rel G st E a) {p:AV} {x:Value} (h:VR E p x):VR E.all (zfa st p) x:=by
 have hm:=h.mono hr.le_all
 unfold zfa
 split
 · rename_i id k
   split
   · rename_i hk
     split
     · rename_i e sz xs hh
       cases h with
       | ref _ _ _ h1 h2 =>
        rw[h2 (by rw[hr.ver];exact hk)]
        have hb:=hr.blocks id
        rw[hh]at hb
        obtain⟨hsz,us,hown,hlen,hvs,hblk⟩:=hb
        rcases hown.2 with ⟨hv,hn⟩|⟨g,cap,cur,hv,hg,hheap,hn,hc,hcs,ht⟩
        · have hx:xs=[]:=List.eq_nil_of_length_eq_zero hn
          subst hx
          rw[hv];exact .lstNil _
        · rw[hv]
          have hul:us.length=xs.length * sz:=hown.1
          refine .lst sz xs g 0 cap (fun k=>us.getD k undef) (Array.getElem?_eq_some_iff.1 hheap).1 hn hc (fun k hk=>?_) (fun i x hi=>hlen x (List.mem_of_getElem? hi)) fun i x j c hi hj=>?_
          · have:=hown.cells (g:=g) (by rw[hv];rfl) k _ (List.getElem?_eq_getElem (by omega))
            rw[zbr]at this
            have e:us.getD k undef=us[k]'(by omega):=by simp[List.getD,hul,hk]
            show E.w.cell? _=_
            rw[this,e]
          · have hjl:j < sz:=by rw[← hlen x (List.mem_of_getElem? hi)];exact (List.getElem?_eq_some_iff.1 hj).1
            have hg:=zlm xs i x j hlen hi hjl
            rw[hj]at hg
            have hi':i < xs.length:=(List.getElem?_eq_some_iff.1 hi).1
            have hmul:i * sz+sz≤xs.length * sz:=by rw[← Nat.succ_mul];exact Nat.mul_le_mul_right _ hi'
            have hlt:i * sz+j < us.length:=by omega
            have e:us.getD (i * sz+j) undef=us[i * sz+j]:=by simp[List.getD,hlt]
            rw[e]
            exact (hvs.2 _ c _ hg (List.getElem?_eq_getElem hlt)).mono hr.le_all
     · rename_i es clk hh
       cases h with
       | ref _ _ _ h1 h2 =>
        rw[h2 (by rw[hr.ver];exact hk)]
        have hb:=hr.blocks id
        rw[hh]at hb
        obtain⟨g1,g2,g3,g4⟩:=hb
        rw[g2]
        exact .mapv es clk _ (Array.getElem?_eq_some_iff.1 g1).1 g1
     · rename_i m hh
       cases h with
       | ref _ _ _ h1 h2 =>
        rw[h2 (by rw[hr.ver];exact hk)]
        have hb:=hr.blocks id
        rw[hh]at hb
        obtain⟨es,clk,g1,g2,g3,g4,g5,_⟩:=hb
        rw[g2]
        have g5:=g5.mono hr.le_all
        exact .amapv m.f es clk _ (Array.getElem?_eq_some_iff.1 g1).1 g1 g5.1 g5.2.1 g5.2.2
     · exact .junk _
   · exact .junk _
 · exact hm
theorem zfd (hr:Rel G st E a) {p:AV} {x:Value} (h:VR E p x):VR E.all (zfc st p) x:=by
 unfold zfc
 split
 · rename_i id k i j
   split
   · rename_i hk
     cases h with
     | rptr _ _ _ _ _ h1 h2 =>
      have hx:=h2 (by rw[hr.ver];exact hk)
      subst hx
      have hb:=hr.blocks id
      split
      · rename_i cs hh
        rw[hh]at hb
        obtain⟨us,t,hheap,hb1,hb2,hvs⟩:=hb
        split
        · rename_i hi
          subst hi
          have hul:cs.length=us.size:=by simpa using hvs.1
          have hlt:=(Array.getElem?_eq_some_iff.1 hheap).1
          have:=VR.eptr (E:=E.all) (cs.map (zfa st)) j (E.own id).blk 0 (fun k=>us.getD k undef) hlt (fun k hk=>by
           simp only[List.length_map]at hk
           show E.w.cell? _=_
           rw[cell_of_row _ _ _ _ _ _ hheap]
           simp[Array.getD_eq_getD_getElem?,show k < us.size from by omega]) (fun k c hc=>by
           simp only[List.getElem?_map,Option.map_eq_some_iff]at hc
           obtain⟨c',hc',rfl⟩:=hc
           have hk:k < us.size:=by rw[← hul];exact (List.getElem?_eq_some_iff.1 hc').1
           refine zfb hr (hvs.2 k c' _ hc' ?_)
           simp[Array.getD_eq_getD_getElem?,hk])
          simpa using this
        · exact .junk _
      · rename_i e sz xs hh
        rw[hh]at hb
        obtain⟨hsz,us,hown,hlen,hvs,hblk⟩:=hb
        split
        · rename_i x hxi
          have hi':i < xs.length:=(List.getElem?_eq_some_iff.1 hxi).1
          have hmul:i * sz+sz≤xs.length * sz:=by rw[← Nat.succ_mul];exact Nat.mul_le_mul_right _ hi'
          rcases hown.2 with ⟨hv,hn⟩|⟨g,cap,cur,hv,hg,hheap,hn,hc,hcs,ht⟩
          · omega
          · have hg1:=(hblk g (by rw[hv];rfl)).1
            have hul:us.length=xs.length * sz:=hown.1
            have hxl:=hlen x (List.mem_of_getElem? hxi)
            rw[hsz,hg1]
            exact .eptr x.cells j g (i * sz) (fun k=>us.getD (i * sz+k) undef) (Array.getElem?_eq_some_iff.1 hheap).1 (fun k hk=>by
             have hlt:i * sz+k < us.length:=by omega
             have:=hown.cells (g:=g) (by rw[hv];rfl) (i * sz+k) _ (List.getElem?_eq_getElem hlt)
             rw[zbr,Nat.zero_add]at this
             show E.w.cell? _=_
             rw[this];simp[List.getD,hlt]) fun k c hc'=>by
              have hkl:k < sz:=by rw[← hxl];exact (List.getElem?_eq_some_iff.1 hc').1
              have hlt:i * sz+k < us.length:=by omega
              have hg:=zlm xs i x k hlen hxi hkl
              rw[hc']at hg
              have e:us.getD (i * sz+k) undef=us[i * sz+k]:=by simp[List.getD,hlt]
              rw[e]
              exact (hvs.2 _ c _ hg (List.getElem?_eq_getElem hlt)).mono hr.le_all
        · exact .junk _
      · exact .junk _
   · exact .junk _
 · exact zfb hr h
theorem zff (hr:Rel G st E a) {p:AV} {x:Value} (h:VR E p x):VR E.all (ze9 st p) x:=by
 unfold ze9
 split
 · rename_i f first captured
   cases h with
   | fn _ _ _ us vs h1 h2 h3 h4 =>
    refine .fn f _ _ us vs (by simpa using h1) (by simpa using h2) (fun i c hc=>?_) fun i c hc=>?_
    · simp only[List.getElem?_map,Option.map_eq_some_iff]at hc
      obtain⟨c',hc',rfl⟩:=hc
      exact zfd hr (h3 i c' hc')
    · simp only[List.getElem?_map,Option.map_eq_some_iff]at hc
      obtain⟨c',hc',rfl⟩:=hc
      exact zfd hr (h4 i c' hc')
 · rename_i t y
   cases h with
   | iface _ _ v h1=>exact .iface _ _ v (zfd hr h1)
 · exact zfd hr h
end
end Go.Abs
