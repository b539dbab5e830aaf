/- Several texts of the proof in one: Fz. No condition. -/
import Derived.Test.YthjmjdleecmaeaaGreatL03
set_option linter.unusedSimpArgs false
set_option linter.unusedVariables false
set_option maxHeartbeats 4000000
set_option maxRecDepth 8000
namespace Go.Abs
open Go Go.RowKit
def fz0 (st:St) (id:Nat):AV→AV
 | .ref i k=>if i=id∧k=st.ver id then
  match st.h id with
  | .arr _ sz xs=>.lst sz xs
  | .map es clk=>.mapv es clk
  | .amap m=>.amapv m.f
  | _=>.ref i k
  else .ref i k
 | .osl i k lo hi f=>if i=id∧k=st.ver id then
  match st.h id with
  | .arr _ sz xs=>if lo≤hi∧hi≤xs.length then .lst sz ((xs.drop lo).take (hi - lo)) else .osl i k lo hi f
  | _=>.osl i k lo hi f
  else .osl i k lo hi f
 | .rptr i k n j=>if i=id∧k=st.ver id then
  match st.h id with
  | .box cs=>if n=0 then .eptr cs j else .rptr i k n j
  | .arr _ _ xs=>match xs[n]? with
   | some x=>.eptr x.cells j
   | none=>.rptr i k n j
  | _=>.rptr i k n j
  else .rptr i k n j
 | p=>p
def fz (st:St) (id:Nat):AV→AV
 | .fn f first captured=>.fn f (first.map (fz0 st id)) (captured.map (fz0 st id))
 | .agg cs=>.agg (cs.map (fz0 st id))
 | .iface t x=>.iface t (fz0 st id x)
 | p=>fz0 st id p
def fzB (st:St) (id:Nat):Blk→Blk
 | .box cs=>.box (cs.map (fz st id))
 | b=>b
def St.freeze (st:St) (id:Nat):St:={ σ:=fun j=>fz st id (st.σ j),ver:=st.ver,h:=fun j=>if j=id then .none else fzB st id (st.h j) }
def St.freezes:List Nat→St→St
 | [],st=>st
 | id::l,st=>St.freezes l (st.freeze id)
section
variable {G:Ctx} {st:St} {E:Env} {a:Act}
def Env.fz (E:Env) (st:St) (id:Nat):Env:={ E with S:=fun b=>E.S b∨(st.h id).at (E.own id)=some b }
theorem Env.le_fz (E:Env) (st:St) (id:Nat):E.Le (E.fz st id):=⟨fun _ h=>.inl h,fun _ _=>rfl,fun _=>Nat.le_refl _,fun _ _=>rfl⟩
theorem zmp (hr:Rel G st E a) {id:Nat} {p:AV} {x:Value} (h:VR E p x):VR (E.fz st id) (fz0 st id p) x:=by
 have hm:=h.mono (E.le_fz st id)
 unfold fz0
 split
 · rename_i i k
   split
   case isFalse=>exact hm
   rename_i hk
   obtain⟨rfl,hk⟩:=hk
   split
   · rename_i e sz xs hh
     cases h with
     | ref _ _ _ h1 h2 =>
      rw[h2 (by rw[hr.ver];exact hk)]
      have hb:=hr.blocks i
      rw[hh]at hb
      obtain⟨hsz,us,hown,hlen,hvs,hblk⟩:=hb
      rcases hown.2 with ⟨hv,hn⟩|⟨g,cap,cur,hv,hg,hheap,hn,hc,hcs,ht⟩
      · have hx:xs=[]:=List.eq_nil_of_length_eq_zero hn
        subst hx
        rw[hv];exact .lstNil _
      · have hSg:(E.fz st i).S g:=.inr (by rw[hh];simp[Blk.at,hv,Value.ownBlock])
        rw[hv]
        have hul:us.length=xs.length * sz:=hown.1
        refine .lst sz xs g 0 cap (fun k=>us.getD k undef) hSg hn hc (fun k hk=>?_) (fun i x hi=>hlen x (List.mem_of_getElem? hi)) fun i x j c hi hj=>?_
        · have:=hown.cells (g:=g) (by rw[hv];rfl) k _ (List.getElem?_eq_getElem (by omega))
          rw[zbr]at this
          have e:us.getD k undef=us[k]'(by omega):=by simp[List.getD,hul,hk]
          show E.w.cell? _=_
          rw[this,e]
        · have hjl:j < sz:=by rw[← hlen x (List.mem_of_getElem? hi)];exact (List.getElem?_eq_some_iff.1 hj).1
          have hg:=zlm xs i x j hlen hi hjl
          rw[hj]at hg
          have hi':i < xs.length:=(List.getElem?_eq_some_iff.1 hi).1
          have hmul:i * sz+sz≤xs.length * sz:=by rw[← Nat.succ_mul];exact Nat.mul_le_mul_right _ hi'
          have hlt:i * sz+j < us.length:=by omega
          have e:us.getD (i * sz+j) undef=us[i * sz+j]:=by simp[List.getD,hlt]
          rw[e]
          exact (hvs.2 _ c _ hg (List.getElem?_eq_getElem hlt)).mono (E.le_fz st _)
   · rename_i es clk hh
     cases h with
     | ref _ _ _ h1 h2 =>
      rw[h2 (by rw[hr.ver];exact hk)]
      have hb:=hr.blocks i
      rw[hh]at hb
      obtain⟨g1,g2,g3,g4⟩:=hb
      rw[g2]
      exact .mapv es clk _ (.inr (by rw[hh];rfl)) g1
   · rename_i m hh
     cases h with
     | ref _ _ _ h1 h2 =>
      rw[h2 (by rw[hr.ver];exact hk)]
      have hb:=hr.blocks i
      rw[hh]at hb
      obtain⟨es,clk,g1,g2,g3,g4,g5,_⟩:=hb
      rw[g2]
      have g5:=g5.mono (E.le_fz st i)
      exact .amapv m.f es clk _ (.inr (by rw[hh];rfl)) g1 g5.1 g5.2.1 g5.2.2
   · exact hm
 · rename_i i k lo hi f
   split
   case isFalse=>exact hm
   rename_i hk
   obtain⟨rfl,hk⟩:=hk
   split
   · rename_i e sz xs hh
     split
     case isFalse=>exact hm
     rename_i hlh
     obtain⟨hlh,hhx⟩:=hlh
     cases h with
     | osl _ _ _ _ _ _ h1 h2 =>
      rw[h2 (by rw[hr.ver];exact hk)]
      have hb:=hr.blocks i
      rw[hh]at hb
      obtain⟨hsz,us,hown,hlen,hvs,hblk⟩:=hb
      have hl:((xs.drop lo).take (hi - lo)).length=hi - lo:=by rw[List.length_take,List.length_drop];omega
      rcases hown.2 with ⟨hv,hn⟩|⟨g,cap,cur,hv,hg,hheap,hn,hc,hcs,ht⟩
      · have hx:xs=[]:=List.eq_nil_of_length_eq_zero hn
        subst hx
        have h0:hi=0:=by simpa using hhx
        have h1:lo=0:=by omega
        subst h0;subst h1
        rw[hv,ylg]
        have:(if (if f=true then (0:Nat) else 0)=0 then (none:Option Addr) else Option.map (fun x:Addr=>x.add (0 * (E.own i).sz)) none)=none:=by split<;>rfl
        rw[this]
        have:(if f=true then (0:Nat) else 0) - 0=0:=by cases f<;>rfl
        rw[this]
        exact .lstNil _
      · have hSg:(E.fz st i).S g:=.inr (by rw[hh];simp[Blk.at,hv,Value.ownBlock])
        have hcap:(if f=true then hi else cap) - lo≤maxLen:=by cases f<;>simp<;>omega
        by_cases he:hi=lo
        · have:(xs.drop lo).take (hi - lo)=[]:=by rw[he];simp
          rw[this,hv,ylg]
          have h00:hi - lo=0:=by omega
          rw[h00]
          generalize (if f=true then hi else cap)=C at hcap ⊢
          by_cases hC:C=lo
          · rw[if_pos hC];exact .lstNo _ _ _ hcap
          · rw[if_neg hC,Option.map_some];exact .lstNo _ _ _ hcap
        · have hne:¬ (if f=true then hi else cap)=lo:=by
           intro hc
           cases f<;>simp at hc<;>omega
          rw[hv,ylg,if_neg hne,Option.map_some,zbr,Nat.zero_add,hsz]
          have hul:us.length=xs.length * sz:=hown.1
          have hm2:hi * sz≤xs.length * sz:=Nat.mul_le_mul_right _ hhx
          have hm1:lo * sz+(hi - lo) * sz=hi * sz:=by rw[← Nat.add_mul];congr 1;omega
          have:=VR.lst (E:=E.fz st i) sz ((xs.drop lo).take (hi - lo)) g (lo * sz) ((if f=true then hi else cap) - lo) (fun k=>us.getD (lo * sz+k) undef) hSg (by rw[hl];cases f<;>simp<;>omega) hcap (fun k hk=>?_) (fun j x hj=>hlen x (List.mem_of_mem_drop (List.mem_of_mem_take (List.mem_of_getElem? hj)))) fun j x q c hj hq=>?_
          · rw[hl]at this;exact this
          · rw[hl]at hk
            have hlt:lo * sz+k < us.length:=by omega
            have:=hown.cells (g:=g) (by rw[hv];rfl) (lo * sz+k) _ (List.getElem?_eq_getElem hlt)
            rw[zbr,Nat.zero_add]at this
            have e:us.getD (lo * sz+k) undef=us[lo * sz+k]'hlt:=by simp[List.getD,hlt]
            show E.w.cell? _=_
            rw[this,e]
          · have hjl:j < hi - lo:=by have:=(List.getElem?_eq_some_iff.1 hj).1;rw[hl]at this;exact this
            rw[List.getElem?_take_of_lt hjl,List.getElem?_drop]at hj
            have hql:q < sz:=by rw[← hlen x (List.mem_of_getElem? hj)];exact (List.getElem?_eq_some_iff.1 hq).1
            have hg:=zlm xs (lo+j) x q hlen hj hql
            rw[hq]at hg
            have hmul:(lo+j) * sz+sz≤xs.length * sz:=by rw[← Nat.succ_mul];exact Nat.mul_le_mul_right _ (by omega)
            have e2:lo * sz+(j * sz+q)=(lo+j) * sz+q:=by rw[Nat.add_mul];omega
            have hlt:(lo+j) * sz+q < us.length:=by omega
            show VR _ c (us.getD (lo * sz+(j * sz+q)) undef)
            rw[e2]
            have e:us.getD ((lo+j) * sz+q) undef=us[(lo+j) * sz+q]:=by simp[List.getD,hlt]
            rw[e]
            exact (hvs.2 _ c _ hg (List.getElem?_eq_getElem hlt)).mono (E.le_fz st _)
   · exact hm
 · rename_i i k n j
   split
   case isFalse=>exact hm
   rename_i hk
   obtain⟨rfl,hk⟩:=hk
   cases h with
   | rptr _ _ _ _ _ h1 h2 =>
    have hx:=h2 (by rw[hr.ver];exact hk)
    subst hx
    have hb:=hr.blocks i
    split
    · rename_i cs hh
      rw[hh]at hb
      obtain⟨us,t,hheap,hb1,hb2,hvs⟩:=hb
      split
      case isFalse=>exact hm
      rename_i hi
      subst hi
      have hul:cs.length=us.size:=by simpa using hvs.1
      have:=VR.eptr (E:=E.fz st i) cs j (E.own i).blk 0 (fun k=>us.getD k undef) (.inr (by rw[hh];rfl)) (fun k hk=>by
       show E.w.cell? _=_
       rw[cell_of_row _ _ _ _ _ _ hheap]
       simp[Array.getD_eq_getD_getElem?,show k < us.size from by omega]) (fun k c hc=>by
       have hk:k < us.size:=by rw[← hul];exact (List.getElem?_eq_some_iff.1 hc).1
       refine (hvs.2 k c _ hc ?_).mono (E.le_fz st _)
       simp[Array.getD_eq_getD_getElem?,hk])
      simpa using this
    · rename_i e sz xs hh
      rw[hh]at hb
      obtain⟨hsz,us,hown,hlen,hvs,hblk⟩:=hb
      split
      · rename_i x hxi
        have hi':n < xs.length:=(List.getElem?_eq_some_iff.1 hxi).1
        have hmul:n * sz+sz≤xs.length * sz:=by rw[← Nat.succ_mul];exact Nat.mul_le_mul_right _ hi'
        rcases hown.2 with ⟨hv,hn⟩|⟨g,cap,cur,hv,hg,hheap,hn,hc,hcs,ht⟩
        · omega
        · have hSg:(E.fz st i).S g:=.inr (by rw[hh];simp[Blk.at,hv,Value.ownBlock])
          have hg1:=(hblk g (by rw[hv];rfl)).1
          have hul:us.length=xs.length * sz:=hown.1
          have hxl:=hlen x (List.mem_of_getElem? hxi)
          rw[hsz,hg1]
          exact .eptr x.cells j g (n * sz) (fun k=>us.getD (n * sz+k) undef) hSg (fun k hk=>by
           have hlt:n * sz+k < us.length:=by omega
           have:=hown.cells (g:=g) (by rw[hv];rfl) (n * sz+k) _ (List.getElem?_eq_getElem hlt)
           rw[zbr,Nat.zero_add]at this
           show E.w.cell? _=_
           rw[this];simp[List.getD,hlt]) fun k c hc'=>by
            have hkl:k < sz:=by rw[← hxl];exact (List.getElem?_eq_some_iff.1 hc').1
            have hlt:n * sz+k < us.length:=by omega
            have hg:=zlm xs n x k hlen hxi hkl
            rw[hc']at hg
            have e:us.getD (n * sz+k) undef=us[n * sz+k]:=by simp[List.getD,hlt]
            rw[e]
            exact (hvs.2 _ c _ hg (List.getElem?_eq_getElem hlt)).mono (E.le_fz st _)
      · exact hm
    · exact hm
 · exact hm
theorem zmr (hr:Rel G st E a) {id:Nat} {p:AV} {x:Value} (h:VR E p x):VR (E.fz st id) (fz st id p) x:=by
 unfold fz
 split
 · rename_i f first captured
   cases h with
   | fn _ _ _ us vs h1 h2 h3 h4 =>
    refine .fn f _ _ us vs (by simpa using h1) (by simpa using h2) (fun i c hc=>?_) fun i c hc=>?_
    · simp only[List.getElem?_map,Option.map_eq_some_iff]at hc
      obtain⟨c',hc',rfl⟩:=hc
      exact zmp hr (h3 i c' hc')
    · simp only[List.getElem?_map,Option.map_eq_some_iff]at hc
      obtain⟨c',hc',rfl⟩:=hc
      exact zmp hr (h4 i c' hc')
 · rename_i cs
   cases h with
   | agg _ us h1 h3 =>
    refine .agg _ us (by simpa using h1) (fun i c hc=>?_)
    simp only[List.getElem?_map,Option.map_eq_some_iff]at hc
    obtain⟨c',hc',rfl⟩:=hc
    exact zmp hr (h3 i c' hc')
 · rename_i t y
   cases h with
   | iface _ _ v h1=>exact .iface _ _ v (zmp hr h1)
 · exact zmp hr h
theorem fzB_at (st:St) (id:Nat) (o:Own) (b:Blk):(fzB st id b).at o=b.at o:=by cases b<;>rfl
theorem Rel.freeze (hr:Rel G st E a) (id:Nat):Rel G (st.freeze id) (E.fz st id) a:=by
 refine⟨hr.size,hr.defersLe (E.le_fz st id),hr.once,hr.le0Le (E.le_fz st id),hr.ver,hr.below,fun b hb=>?_,fun b hb=>.inl (hr.S0 b hb),fun b hb=>?_,fun j=>zmr hr (hr.slots j),fun j=>?_,fun j j' b hne=>?_⟩
 · rcases hb with hb|hb
   · exact hr.Slt b hb
   · exact ((hr.blocks id).at_lt hb).2.1
 · rcases hb with hb|hb
   · exact hr.Snew b hb
   · exact .inr ((hr.blocks id).at_lt hb).1
 · by_cases hj:j=id
   · simp only[St.freeze,hj,if_true];trivial
   · simp only[St.freeze,hj,if_false]
     have h0:BR (E.fz st id) G.w0.heap.size ((E.fz st id).own j) (st.h j):=(hr.blocks j).mono (E.le_fz st id) fun b hb=>⟨rfl,fun hS=>by
      rcases hS with hS|hS
      · exact hS
      · exact absurd hS (hr.apart j id b hj hb)⟩
     cases hb:st.h j with
     | none=>trivial
     | arr e sz xs=>rw[hb]at h0;exact h0
     | map es clk=>rw[hb]at h0;exact h0
     | obj x=>rw[hb]at h0;exact h0
     | iter es clk done=>rw[hb]at h0;exact h0
     | amap m=>rw[hb]at h0;exact h0
     | box cs =>
      rw[hb]at h0
      obtain⟨us,t,h1,h2,h3,h4⟩:=h0
      have hb':=hr.blocks j
      rw[hb]at hb'
      obtain⟨us',t',g1,g2,g3,g4⟩:=hb'
      have:us'=us:=by
       have:=g1.symm.trans h1
       simp at this;exact this.1
      subst this
      refine⟨us',t,h1,h2,h3,by simpa using h4.1,fun i c u hc hu=>?_⟩
      simp only[List.getElem?_map,Option.map_eq_some_iff]at hc
      obtain⟨c',hc',rfl⟩:=hc
      exact zmr hr (g4.2 i c' u hc' hu)
 · simp only[St.freeze]
   show (if j=id then Blk.none else fzB st id (st.h j)).at (E.own j)=some b→(if j'=id then Blk.none else fzB st id (st.h j')).at (E.own j')≠some b
   by_cases hj:j=id
   · rw[if_pos hj];intro h;cases h
   · rw[if_neg hj,fzB_at]
     by_cases hj':j'=id
     · rw[if_pos hj'];intro _ h;cases h
     · rw[if_neg hj',fzB_at];exact hr.apart j j' b hne
theorem Rel.freezes:∀ (ids:List Nat) (st:St) (E:Env),Rel G st E a→∃ E',E'.w=E.w∧Rel G (st.freezes ids) E' a
 | [],_,E,hr=>⟨E,rfl,hr⟩
 | id::l,st,E,hr=>by
  obtain⟨E',h1,h2⟩:=Rel.freezes l _ _ (hr.freeze id)
  exact⟨E',h1,h2⟩
theorem AWp.freeze (id:Nat) {c:Code} {Q:Exit→St→Prop} (h:AWp G c Q (st.freeze id)):AWp G c Q st:=fun E a hr=>h (E.fz st id) a (hr.freeze id)
inductive Wk0:AV→AV→Prop
 | refl (p:AV):Wk0 p p
 | nil (sz:Nat):Wk0 (.v (.slice none 0 0)) (.lst sz [])
def WkL0:List AV→List AV→Prop
 | [],[]=>True
 | p::ps,q::qs=>Wk0 p q∧WkL0 ps qs
 | _,_=>False
inductive Wk:AV→AV→Prop
 | one {p q:AV}:Wk0 p q→Wk p q
 | agg {ps qs:List AV}:WkL0 ps qs→Wk (.agg ps) (.agg qs)
 | lst {sz:Nat} {xs ys:List AV}:xs.length=ys.length→(∀ (i:Nat) x y,xs[i]? = some x→ys[i]? = some y→WkL0 x.cells y.cells)→Wk (.lst sz xs) (.lst sz ys)
def WkL:List AV→List AV→Prop
 | [],[]=>True
 | p::ps,q::qs=>Wk p q∧WkL ps qs
 | _,_=>False
inductive WkR1:AV→AV→Prop
 | one {p q:AV}:Wk p q→WkR1 p q
 | fresh (e sz:Nat):WkR1 (.v (.slice none 0 0)) (.fresh e sz [])
def WkRL:List AV→List AV→Prop
 | [],[]=>True
 | p::ps,q::qs=>WkR1 p q∧WkRL ps qs
 | _,_=>False
inductive WkR:AV→AV→Prop
 | one {p q:AV}:WkR1 p q→WkR p q
 | tup {ps qs:List AV}:WkRL ps qs→WkR (.tup ps) (.tup qs)
theorem Wk.refl (p:AV):Wk p p:=.one (.refl p)
theorem Wk.nil (sz:Nat):Wk (.v (.slice none 0 0)) (.lst sz []):=.one (.nil sz)
theorem WkR1.refl (p:AV):WkR1 p p:=.one (.refl p)
theorem WkR.refl (p:AV):WkR p p:=.one (.refl p)
theorem WkR.nil (sz:Nat):WkR (.v (.slice none 0 0)) (.lst sz []):=.one (.one (.nil sz))
theorem WkR.fresh (e sz:Nat):WkR (.v (.slice none 0 0)) (.fresh e sz []):=.one (.fresh e sz)
theorem Wk0.sound {p q:AV} (h:Wk0 p q) {x:Value} (hx:VR E p x):VR E q x:=by
 cases h with
 | refl=>exact hx
 | nil sz=>rw[hx.v_inv];exact .lstNil _
theorem WkL0.get:∀ {ps qs:List AV},WkL0 ps qs→ps.length=qs.length∧∀ (i:Nat) p q,ps[i]? = some p→qs[i]? = some q→Wk0 p q
 | [],[],_=>⟨rfl,by simp⟩
 | p::ps,q::qs,h=>by
  obtain⟨h1,h2⟩:=WkL0.get h.2
  refine⟨by simp[h1],fun i p' q' hp hq=>?_⟩
  cases i with
  | zero=>simp at hp hq;subst hp;subst hq;exact h.1
  | succ i=>exact h2 i p' q' (by simpa using hp) (by simpa using hq)
 | [],_::_,h=>h.elim
 | _::_,[],h=>h.elim
theorem Wk.sound {p q:AV} (h:Wk p q) {x:Value} (hx:VR E p x):VR E q x:=by
 cases h with
 | one h=>exact h.sound hx
 | agg h =>
  obtain⟨h1,h2⟩:=h.get
  cases hx with
  | agg _ us hl hc =>
   refine .agg _ us (by rw[← h1];exact hl) fun i c hi=>?_
   have hlt:i < _:=(List.getElem?_eq_some_iff.1 hi).1
   rw[← h1]at hlt
   have hp:=List.getElem?_eq_getElem hlt
   exact (h2 i _ _ hp hi).sound (hc i _ hp)
 | lst hll hel =>
  rename_i sz xs ys
  cases hx with
  | lst _ _ b off cap u hS h1 h2 h3 h4 h5 =>
   have hx:∀ (i:Nat) y,ys[i]? = some y→∃ x,xs[i]? = some x∧WkL0 x.cells y.cells:=fun i y hy=>by
    have hi:i < xs.length:=by rw[hll];exact (List.getElem?_eq_some_iff.1 hy).1
    exact⟨xs[i],List.getElem?_eq_getElem hi,hel i _ y (List.getElem?_eq_getElem hi) hy⟩
   rw[hll]
   refine .lst sz ys b off cap u hS (by omega) h2 (fun k hk=>h3 k (by rw[hll];exact hk)) (fun i y hy=>?_) fun i y j c hy hc=>?_
   · obtain⟨x,hx,hw⟩:=hx i y hy
     rw[← hw.get.1];exact h4 i x hx
   · obtain⟨x,hx,hw⟩:=hx i y hy
     obtain⟨hl,hg⟩:=hw.get
     have hj:j < x.cells.length:=by rw[hl];exact (List.getElem?_eq_some_iff.1 hc).1
     exact (hg j _ c (List.getElem?_eq_getElem hj) hc).sound (h5 i x j _ hx (List.getElem?_eq_getElem hj))
  | lstNil _ =>
   have:ys=[]:=List.eq_nil_of_length_eq_zero (by simpa using hll.symm)
   subst this;exact .lstNil _
  | lstNo _ _ ad hc =>
   have:ys=[]:=List.eq_nil_of_length_eq_zero (by simpa using hll.symm)
   subst this;exact .lstNo _ _ _ hc
theorem WkL.get:∀ {ps qs:List AV},WkL ps qs→ps.length=qs.length∧∀ (i:Nat) p q,ps[i]? = some p→qs[i]? = some q→Wk p q
 | [],[],_=>⟨rfl,by simp⟩
 | p::ps,q::qs,h=>by
  obtain⟨h1,h2⟩:=WkL.get h.2
  refine⟨by simp[h1],fun i p' q' hp hq=>?_⟩
  cases i with
  | zero=>simp at hp hq;subst hp;subst hq;exact h.1
  | succ i=>exact h2 i p' q' (by simpa using hp) (by simpa using hq)
 | [],_::_,h=>h.elim
 | _::_,[],h=>h.elim
theorem WkRL.get:∀ {ps qs:List AV},WkRL ps qs→ps.length=qs.length∧∀ (i:Nat) p q,ps[i]? = some p→qs[i]? = some q→WkR1 p q
 | [],[],_=>⟨rfl,by simp⟩
 | p::ps,q::qs,h=>by
  obtain⟨h1,h2⟩:=WkRL.get h.2
  refine⟨by simp[h1],fun i p' q' hp hq=>?_⟩
  cases i with
  | zero=>simp at hp hq;subst hp;subst hq;exact h.1
  | succ i=>exact h2 i p' q' (by simpa using hp) (by simpa using hq)
 | [],_::_,h=>h.elim
 | _::_,[],h=>h.elim
theorem VR.lst_len {sz:Nat} {xs:List AV} {x:Value} (h:VR E (.lst sz xs) x):xs.length≤maxLen:=by
 cases h with
 | lst _ _ b off cap u _ h1 h2=>omega
 | lstNil=>simp
 | lstNo=>simp
theorem AWp.bound {c:Code} {Q:Exit→St→Prop} (d:Nat) {sz:Nat} {xs:List AV} (hd:st.σ d=.lst sz xs) (h:xs.length≤maxLen→AWp G c Q st):AWp G c Q st:=fun E a hr=>by
 have:=hr.slots d
 rw[hd]at this
 exact h this.lst_len E a hr
def St.ownNil (st:St) (id e sz d:Nat):St:={ σ:=upd st.σ d (.ref id (st.ver id+1)),ver:=upd st.ver id (st.ver id+1),h:=upd st.h id (.arr e sz []) }
theorem AWp.ownNil {c:Code} {Q:Exit→St→Prop} (d e sz:Nat) (hd:st.σ d=.v (.slice none 0 0)) (h:AWp G c Q (st.ownNil (G.ids d) e sz d)):AWp G c Q st:=fun E a hr=>by
 obtain⟨E',hw,hr'⟩:=hr.nilOwn e sz (G.ids d) d hd
 have:=h E' a hr'
 rw[hw]at this
 exact this
end
end Go.Abs
