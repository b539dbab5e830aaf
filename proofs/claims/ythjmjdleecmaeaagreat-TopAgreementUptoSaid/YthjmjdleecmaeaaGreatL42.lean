/- Several texts of the proof in one: Y6, B49, B50, B45, B46, B51, B47, Y7. No condition. -/
import Derived.Test.YthjmjdleecmaeaaGreatL41
set_option linter.unusedSimpArgs false
set_option linter.unusedVariables false
set_option maxHeartbeats 4000000
set_option maxRecDepth 8000
namespace Go.Proofs.YthjmjdleecmaeaaGreat
open Go Go.Abs
structure RoomF (U:List Evt) (r:RoomD):Prop where
 es:SetF U r.id r.events
 ws:SetF U r.id r.waiting
 dp:zh9 r.events=0
 hd:r.heads=znf r.events
 stt:r.state=zhp r.events
 dis:∀ e∈r.waiting,getE r.events e.id=none
 rows:∀ w∈r.rows,zpu r.events w.id=true∧(w.status=2→whyI r.events w.id≠0)
 all:∀ e∈r.events,∃ w∈r.rows,w.id=e.id
theorem RoomF.fine {U:List Evt} (hU:U.length≤24) {r:RoomD} (h:RoomF U r):Fine r.events:=h.es.fine hU h.dp
theorem Fine.nil:Fine []:=⟨List.nodup_nil,rfl,rfl⟩
theorem RoomF.new (U:List Evt) (id:Bytes):RoomF U (room0 id):=by
 have h0:SetF U id []:=⟨fun e he=>(by cases he),List.Pairwise.nil,fun e he=>(by cases he),fun e he=>(by cases he)⟩
 have hh:znf []=[]:=by
  unfold znf
  rw[Fine.nil.acc]
  exact yjm _
 refine⟨h0,h0,rfl,hh.symm,?_,fun e he=>(by cases he),fun w hw=>(by cases hw),fun e he=>(by cases he)⟩
 show []=zhp []
 rw[Fine.nil.current,hh]
 rfl
theorem ypg {l:List Evt} {n:Int} (h:¬ (getE l n).isSome=true):getE l n=none:=by
 cases hg:getE l n with
 | none=>rfl
 | some e=>rw[hg]at h;exact absurd rfl h
theorem RoomF.add {U:List Evt} (hU:U.length≤24) {r:RoomD} (h:RoomF U r) {e:Evt} (he:e∈U) (hv:yp6 e=0) (hr:e.room=r.id) (hn:getE r.events e.id=none) (hw:getE r.waiting e.id=none) :
 ((addR r e).2≠0∧(addR r e).1=r)∨((addR r e).2=0∧RoomF U (addR r e).1∧(∀ x,x∈(addR r e).1.events↔x∈r.events∨x=e)∧(addR r e).1.waiting=r.waiting∧(addR r e).1.id=r.id∧zh9 (putE r.events e).1=0∧(addR r e).1.events=(putE r.events e).1):=by
 have hlen:=h.es.short hU
 obtain⟨p1,p2,p3⟩:=zz0 hU h.es he hv hr hn
 unfold addR
 rw[if_neg (by omega),if_neg (not_not_intro p1)]
 by_cases c1:zh9 (putE r.events e).1=0
 case neg=>rw[if_pos c1];exact .inl ⟨by show (15:Int)≠0;decide,rfl⟩
 rw[if_neg (not_not_intro c1)]
 by_cases c2:0 < zej r.events∧zej r.events < zej (putE r.events e).1
 · rw[if_pos c2];exact .inl ⟨by show (17:Int)≠0;decide,rfl⟩
 rw[if_neg c2]
 have hf:=h.fine hU
 have hf2:=p2.fine hU c1
 have hle:Le r.events (putE r.events e).1:=Le.sub fun x hx=>(p3 x).2 (.inl hx)
 have hek:zpu (putE r.events e).1 e.id=true:=zp2 ((p3 e).2 (.inr rfl))
 refine .inr ⟨rfl,⟨p2,h.ws,c1,rfl,rfl,fun x hx=>?_,fun w hw=>?_,fun x hx=>?_⟩,p3,rfl,rfl,c1,rfl⟩
 · show getE (putE r.events e).1 x.id=none
   cases hg:getE (putE r.events e).1 x.id with
   | none=>rfl
   | some y =>
    exfalso
    have hy:=zmz hg
    rcases (p3 y).1 (List.mem_of_find?_eq_some hg) with h1|h1
    · have h2:=h.dis x hx
      have h3:=zp2 h1
      unfold zpu at h3
      rw[hy,h2]at h3
      cases h3
    · have h3:=zp2 hx
      unfold zpu at h3
      rw[h1]at hy
      rw[← hy,hw]at h3
      cases h3
 · rcases List.mem_append.1 hw with hw|hw
   · obtain⟨w1,w2⟩:=h.rows w hw
     refine⟨?_,fun h2=>?_⟩
     · obtain⟨x,g1,g2,_⟩:=zp1 w1
       show zpu (putE r.events e).1 w.id=true
       rw[← g2]
       exact zp2 ((p3 x).2 (.inl g1))
     · show whyI (putE r.events e).1 w.id≠0
       rw[← hf.why_le hf2 hle w1]
       exact w2 h2
   · rw[List.mem_singleton.1 hw]
     refine⟨hek,fun h2=>?_⟩
     show whyI (putE r.events e).1 e.id≠0
     intro h0
     have hs:=zd5 hf2 hek
     rw[if_pos h0]at hs
     simp only at h2
     unfold ykj at h2
     rw[hs,if_neg (by decide)]at h2
     split at h2
     · exact absurd h2 (by decide)
     · exact absurd h2 (by decide)
 · rcases (p3 x).1 hx with h1|rfl
   · obtain⟨w,g1,g2⟩:=h.all x h1
     exact⟨w,List.mem_append_left _ g1,g2⟩
   · exact⟨_,List.mem_append_right _ (List.mem_singleton.2 rfl),rfl⟩
theorem RoomF.cut {U:List Evt} {r:RoomD} (h:RoomF U r) (p:Nat):RoomF U (cutW r p):=by
 have hs:∀ x∈(cutW r p).waiting,x∈r.waiting:=fun x hx=>zhu hx
 refine⟨h.es,⟨fun x hx=>h.ws.inU x (hs x hx),?_,fun x hx=>h.ws.ver x (hs x hx),fun x hx=>h.ws.rm x (hs x hx)⟩,h.dp,h.hd,h.stt,fun x hx=>h.dis x (hs x hx),h.rows,h.all⟩
 unfold cutW
 simp only
 rw[zhs]
 exact h.ws.srt.sublist (List.eraseIdx_sublist ..)
theorem cut_mem {U:List Evt} {r:RoomD} (h:RoomF U r) {p:Nat} (hp:p < r.waiting.length) (x:Evt):x∈(cutW r p).waiting↔x∈r.waiting∧x.id≠(r.waiting.getD p evZ).id:=by
 have hg:r.waiting.getD p evZ=r.waiting[p]:=by simp[List.getD,hp]
 rw[hg]
 have hnd:=yj5 h.ws.srt
 have hinj:∀ (i j:Nat) (hi:i < r.waiting.length) (hj:j < r.waiting.length),r.waiting[i].id=r.waiting[j].id→i=j:=fun i j hi hj he=>by
  have h1:=h.ws.srt
  rcases Nat.lt_trichotomy i j with hlt|hlt|hlt
  · have:=List.pairwise_iff_getElem.1 h1 i j hi hj hlt;omega
  · exact hlt
  · have:=List.pairwise_iff_getElem.1 h1 j i hj hi hlt;omega
 show x∈r.waiting.take p++r.waiting.drop (p+1)↔_
 rw[zhs,List.mem_eraseIdx_iff_getElem]
 constructor
 · rintro⟨i,hi,hne,rfl⟩
   refine⟨List.getElem_mem hi,fun he=>hne (hinj i p hi hp he)⟩
 · rintro⟨hx,hne⟩
   obtain⟨i,hi,rfl⟩:=List.mem_iff_getElem.1 hx
   exact⟨i,hi,fun he=>hne (by subst he;rfl),rfl⟩
theorem yiy {r:RoomD} (h:nextW r.events r.waiting r.waiting.length=none):yiv r=r:=by
 unfold yiv
 cases hl:r.waiting.length with
 | zero=>rfl
 | succ n =>
  rw[hl]at h
  unfold settleR
  rw[hl,h]
theorem zbs (r:RoomD) (e:Evt):(addR r e).1.waiting=r.waiting:=by
 unfold addR
 split
 · rfl
 split
 · rfl
 split
 · rfl
 split
 · rfl
 · rfl
theorem add_id (r:RoomD) (e:Evt):(addR r e).1.id=r.id:=by
 unfold addR
 split
 · rfl
 split
 · rfl
 split
 · rfl
 split
 · rfl
 · rfl
theorem yi0 {r:RoomD} {p:Nat} (h:nextW r.events r.waiting r.waiting.length=some p):yiv r=yiv (addR (cutW r p) (r.waiting.getD p evZ)).1:=by
 have hp:=zsg _ _ _ _ h
 have hl:(addR (cutW r p) (r.waiting.getD p evZ)).1.waiting.length+1=r.waiting.length:=by
  rw[zbs]
  unfold cutW
  simp only[List.length_append,List.length_take,List.length_drop]
  omega
 unfold yiv
 obtain⟨n,hn⟩:∃ n,(addR (cutW r p) (r.waiting.getD p evZ)).1.waiting.length=n:=⟨_,rfl⟩
 rw[hn]at hl ⊢
 have hs:settleR r.waiting.length r=settleR (n+1) r:=by rw[hl]
 rw[hs,yit,h]
theorem yix {P:RoomD→Prop} (h0:∀ r,nextW r.events r.waiting r.waiting.length=none→P r) (h1:∀ r p,nextW r.events r.waiting r.waiting.length=some p→P (addR (cutW r p) (r.waiting.getD p evZ)).1→P r):∀ r,P r:=by
 have key:∀ (n:Nat) (r:RoomD),r.waiting.length=n→P r:=by
  intro n
  induction n with
  | zero =>
   intro r hr
   refine h0 r ?_
   rw[hr];rfl
  | succ n ih =>
   intro r hr
   cases h:nextW r.events r.waiting r.waiting.length with
   | none=>exact h0 r h
   | some p =>
    have hp:=zsg _ _ _ _ h
    refine h1 r p h (ih _ ?_)
    rw[zbs]
    unfold cutW
    simp only[List.length_append,List.length_take,List.length_drop]
    omega
 exact fun r=>key _ r rfl
theorem RoomF.step {U:List Evt} (hU:U.length≤24) {r:RoomD} (h:RoomF U r) {p:Nat} (hp:p < r.waiting.length) {e:Evt} (he:r.waiting.getD p evZ=e) :
 e∈r.waiting∧RoomF U (cutW r p)∧getE (cutW r p).events e.id=none∧getE (cutW r p).waiting e.id=none∧e∈U∧yp6 e=0∧e.room=r.id:=by
 have hm:e∈r.waiting:=by rw[← he];exact zmt hp
 refine⟨hm,h.cut p,h.dis e hm,?_,h.ws.inU e hm,h.ws.ver e hm,h.ws.rm e hm⟩
 cases hg:getE (cutW r p).waiting e.id with
 | none=>rfl
 | some y =>
  have:=(cut_mem h hp y).1 (List.mem_of_find?_eq_some hg)
  rw[he,zmz hg]at this
  exact absurd rfl this.2
theorem RoomF.settle {U:List Evt} (hU:U.length≤24):∀ r,RoomF U r→RoomF U (yiv r)∧Le r.events (yiv r).events∧(yiv r).id=r.id∧nextW (yiv r).events (yiv r).waiting (yiv r).waiting.length=none:=by
 refine yix (fun r hn h=>?_) fun r p hn ih h=>?_
 · rw[yiy hn]
   exact⟨h,Le.rfl' _,rfl,hn⟩
 · have hp:=zsg _ _ _ _ hn
   obtain⟨e,he⟩:∃ e,r.waiting.getD p evZ=e:=⟨_,rfl⟩
   obtain⟨h1,h2,h3,h4,h5,h6,h7⟩:=h.step hU hp he
   rw[yi0 hn,he]
   rw[he]at ih
   rcases h2.add hU h5 h6 h7 h3 h4 with ⟨_,g⟩|⟨_,g1,g2,_⟩
   · rw[g]at ih ⊢
     exact ih h2
   · obtain⟨i1,i2,i3,i4⟩:=ih g1
     exact⟨i1,Le.trans' (Le.sub fun x hx=>(g2 x).2 (.inl hx)) i2,i3.trans (add_id _ _),i4⟩
theorem RoomF.keep {U:List Evt} (hU:U.length≤24) (hA:Apart U) {r:RoomD} (h:RoomF U r) {e:Evt} (he:e∈U) (hv:yp6 e=0) (hr:e.room=r.id) (hn:(getE r.events e.id).isSome=true) :
 RoomF U (keepR r e)∧Le r.events (keepR r e).events∧(∀ x,x.id≠e.id→(x∈(keepR r e).events↔x∈r.events)):=by
 obtain⟨p1,p2,p3,p4,p5,p6⟩:=zz1 hA h.es he hv hr hn
 have hk:(keepR r e).events=(putE r.events e).1:=by
  unfold keepR orL
  simp only
  rw[if_pos p3]
 have hd:=ypb h.dp p4 p5 (yj5 p1.srt)
 have hf:=h.fine hU
 have hf2:=p1.fine hU hd
 obtain⟨s1,s2⟩:=yhy hf hf2 p4 p2
 have hkn:∀ n,zpu r.events n=true→zpu (putE r.events e).1 n=true:=fun n hn=>known_iff.2 (by rw[p2];exact known_iff.1 hn)
 refine⟨⟨by rw[hk];exact p1,h.ws,by rw[hk];exact hd,?_,?_,fun x hx=>?_,fun w hw=>?_,fun x hx=>?_⟩,by rw[hk];exact p4,by rw[hk];exact p6⟩
 · rw[hk,← s1];exact h.hd
 · rw[hk,← s2];exact h.stt
 · rw[hk]
   cases hg:getE (putE r.events e).1 x.id with
   | none=>rfl
   | some y =>
    have h1:zpu (putE r.events e).1 x.id=true:=by unfold zpu;rw[hg];rfl
    have h2:=known_iff.1 h1
    rw[p2]at h2
    have h3:=known_iff.2 h2
    unfold zpu at h3
    rw[h.dis x hx]at h3
    cases h3
 · rw[hk]
   obtain⟨w1,w2⟩:=h.rows w hw
   exact⟨hkn _ w1,fun h2=>by rw[← hf.why_le hf2 p4 w1];exact w2 h2⟩
 · rw[hk]at hx
   obtain⟨y,g1,g2⟩:=p5 x hx
   obtain⟨w,g3,g4⟩:=h.all y g1
   exact⟨w,g3,by rw[g4,g2.id]⟩
theorem RoomF.wait {U:List Evt} (hU:U.length≤24) (hA:Apart U) {r:RoomD} (h:RoomF U r) {e:Evt} (he:e∈U) (hv:yp6 e=0) (hr:e.room=r.id) (hn:getE r.events e.id=none) :
 RoomF U (waitR r e)∧(∀ x,x.id≠e.id→(x∈(waitR r e).waiting↔x∈r.waiting))∧Le (waitR r e).waiting (e::r.waiting):=by
 have key:SetF U r.id (waitR r e).waiting∧(∀ x,x.id≠e.id→(x∈(waitR r e).waiting↔x∈r.waiting))∧Le (waitR r e).waiting (e::r.waiting):=by
  show SetF U r.id (orL (putE r.waiting e) r.waiting)∧(∀ x,x.id≠e.id→(x∈orL (putE r.waiting e) r.waiting↔x∈r.waiting))∧Le (orL (putE r.waiting e) r.waiting) (e::r.waiting)
  unfold orL
  cases hw:(getE r.waiting e.id).isSome with
  | true =>
   obtain⟨p1,p2,p3,p4,p5,p6⟩:=zz1 hA h.ws he hv hr hw
   rw[if_pos p3]
   exact⟨p1,p6,Le.trans' p5 (Le.sub fun x hx=>List.mem_cons_of_mem _ hx)⟩
  | false =>
   obtain⟨p1,p2,p3⟩:=zz0 hU h.ws he hv hr (ypg (by rw[hw];decide))
   rw[if_pos p1]
   refine⟨p2,fun x hx=>?_,Le.sub fun x hx=>?_⟩
   · rw[p3]
     exact⟨fun h=>h.elim id fun h=>absurd (by rw[h]) hx,.inl⟩
   · rcases (p3 x).1 hx with h1|rfl
     · exact List.mem_cons_of_mem _ h1
     · exact List.mem_cons_self ..
 refine⟨⟨h.es,key.1,h.dp,h.hd,h.stt,fun x hx=>?_,h.rows,h.all⟩,key.2⟩
 show getE r.events x.id=none
 obtain⟨y,g1,g2⟩:=key.2.2 x hx
 rw[g2.id]
 rcases List.mem_cons.1 g1 with rfl|g1
 · exact hn
 · exact h.dis y g1
theorem RoomF.recv {U:List Evt} (hU:U.length≤24) (hA:Apart U) {r:RoomD} (h:RoomF U r) {e:Evt} (he:yp6 (kept e)=0→kept e∈U):RoomF U (recvR r e).1∧Le r.events (recvR r e).1.events∧(recvR r e).1.id=r.id:=by
 unfold recvR
 split
 · exact⟨h,Le.rfl' _,rfl⟩
 rename_i h0
 obtain⟨hk,hv⟩:=yfy h0
 have hx:=he hv
 rw[hk]
 split
 · exact⟨h,Le.rfl' _,rfl⟩
 rename_i hr
 have hr:=Classical.not_not.1 hr
 split
 · rename_i hs
   obtain⟨k1,k2,_⟩:=h.keep hU hA hx hv hr hs
   exact⟨k1,k2,rfl⟩
 rename_i hs
 have hn:=ypg hs
 split
 · exact⟨(h.wait hU hA hx hv hr hn).1,Le.rfl' _,rfl⟩
 rename_i hw
 split
 · unfold takeR
   rcases h.add hU hx hv hr hn (ypg hw) with ⟨g1,g2⟩|⟨g1,g2,g3,g4,g5,_⟩
   · rw[if_pos g1]
     exact⟨h,Le.rfl' _,rfl⟩
   · rw[if_neg (not_not_intro g1)]
     obtain⟨s1,s2,s3,s4⟩:=RoomF.settle hU _ g2
     exact⟨s1,Le.trans' (Le.sub fun x hx=>(g3 x).2 (.inl hx)) s2,s3.trans g5⟩
 split
 · exact⟨h,Le.rfl' _,rfl⟩
 · exact⟨(h.wait hU hA hx hv hr hn).1,Le.rfl' _,rfl⟩
noncomputable def recvAll (r:RoomD) (L:List Evt):RoomD:=L.foldl (fun r e=>(recvR r e).1) r
theorem RoomF.recvAll {U:List Evt} (hU:U.length≤24) (hA:Apart U):∀ (L:List Evt) {r:RoomD},RoomF U r→(∀ e∈L,yp6 (kept e)=0→kept e∈U)→RoomF U (recvAll r L)∧Le r.events (recvAll r L).events
 | [],r,h,_=>⟨h,Le.rfl' _⟩
 | e::L,r,h,hL=>by
  obtain⟨h1,h2,_⟩:=h.recv hU hA (hL e (List.mem_cons_self ..))
  obtain⟨h3,h4⟩:=RoomF.recvAll hU hA L h1 fun x hx=>hL x (List.mem_cons_of_mem _ hx)
  exact⟨h3,h2.trans' h4⟩
theorem ysb {U:List Evt} (hU:U.length≤24) (hA:Apart U) {x y:RoomD} (h:RoomF U x) (g:RoomF U y) (hi:x.events.map (·.id)=y.events.map (·.id)) :
 x.state=y.state∧x.heads=y.heads∧∀ n,zpu x.events n=true→whyI x.events n=whyI y.events n:=by
 have hl:Le x.events y.events:=fun e he=>by
  have h1:e.id∈y.events.map (·.id):=by rw[← hi];exact List.mem_map.2 ⟨e,he,rfl⟩
  obtain⟨e',h2,h3⟩:=List.mem_map.1 h1
  exact⟨e',h2,hA e (h.es.inU e he) e' (g.es.inU e' h2) h3.symm⟩
 obtain⟨s1,s2⟩:=yhy (h.fine hU) (g.fine hU) hl hi.symm
 exact⟨by rw[h.stt,g.stt,s2],by rw[h.hd,g.hd,s1],fun n hn=>(h.fine hU).why_le (g.fine hU) hl hn⟩
end Go.Proofs.YthjmjdleecmaeaaGreat
namespace Go.Proofs.YthjmjdleecmaeaaGreat
open Go Go.Abs Go.Proofs.Tryz
def frm:Bytes:=[33,114,58,97]
def fus:Bytes:=[64,117,58,97]
def fc0:Content:=⟨[],0,0,false,[],[],[],⟨[],[],0,0,0,0,0,0,0⟩⟩
def fE0:Evt:=⟨3650182879708452992,frm,fus,1,true,[],1,1,[],[],fc0,585502832614925413,⟨[97],3650182879708452992⟩⟩
def fE1:Evt:=⟨1671692878527444864,frm,fus,2,true,fus,1,2,[3650182879708452992],[3650182879708452992],{ fc0 with n:=3 },4377712874323737347,⟨[97],1671692878527444864⟩⟩
def fE2:Evt:=⟨1159420052813644354,frm,fus,3,true,[],1,3,[1671692878527444864],[1671692878527444864,3650182879708452992],{ fc0 with levels:=defLv fus },3785976475209561664,⟨[97],1159420052813644354⟩⟩
def fE3:Evt:=⟨1859570287335594878,frm,fus,4,true,[],1,4,[1159420052813644354],[1159420052813644354,1671692878527444864,3650182879708452992],{ fc0 with n:=1 },312344173708733423,⟨[97],1859570287335594878⟩⟩
def fE4:Evt:=⟨715419231337816976,frm,fus,5,true,[],1,5,[1859570287335594878],[1159420052813644354,1671692878527444864,3650182879708452992],fc0,585502832614925413,⟨[97],715419231337816976⟩⟩
def fM:Nat→Evt
 | 0=>fE0
 | 1=>fE1
 | 2=>fE2
 | 3=>fE3
 | _=>fE4
def fL:Nat→List Evt
 | 0=>[fE0]
 | 1=>[fE1,fE0]
 | 2=>[fE2,fE1,fE0]
 | 3=>[fE2,fE1,fE3,fE0]
 | _=>[fE4,fE2,fE1,fE3,fE0]
def fK:Nat→Int
 | 0=>2
 | 1=>3
 | 2=>4
 | _=>5
def fKey:Nat→Bytes
 | 0=>fus
 | _=>[]
def fCt:Nat→Content
 | 0=>{ fc0 with n:=3 }
 | 1=>{ fc0 with levels:=defLv fus }
 | 2=>{ fc0 with n:=1 }
 | _=>fc0
def fMade:List Evt:=[fE0,fE1,fE2,fE3,fE4]
def okE (e:Evt):Bool:=decide (bkE e≤1000)&&(decide (e.prev.length≤10)&&(decide (e.auth.length≤10)&&(decide (e.content.levels.users.length≤10)&&decide (e.content.levels.kinds.length≤10))))
theorem ztk {e:Evt} (h:okE e=true):SmE e∧Mod e∧e.prev.length≤10∧e.auth.length≤10:=by
 simp only[okE,Bool.and_eq_true,decide_eq_true_eq]at h
 obtain⟨h1,h2,h3,h4,h5⟩:=h
 refine⟨?_,⟨by omega,by omega⟩,h2,h3⟩
 unfold SmE
 omega
theorem zjo:∀ e∈fMade,okE e=true:=by decide +kernel
theorem good_of {l:List Evt} (hl:l.length≤14) (h:∀ e∈l,okE e=true):Good l :=
 ⟨⟨fun e he=>(ztk (h e he)).1,fun e he=>(ztk (h e he)).2.1,by omega⟩,⟨hl,fun e he=>by have:=(ztk (h e he)).2.2.1;omega,fun e he=>by have:=(ztk (h e he)).2.2.2;omega⟩⟩
noncomputable def zsf (q:Nat):Bool :=
 let l:=fL q
 let f:=zl6 ((l.getD 0 evZ).room) (zhp l) (fM q) (rawE fus (fK q) (fKey q) (fCt q) 1)
 !(zbh l).isEmpty&&(decide (headsOf l (zbh l)=[(fM q).id])&&(decide (getE l (fM q).id=some (fM q))&&(okE f&&(zgg f==0&&(zcp f (eventsOf l (zhp l))==0&&(decide (signE f (srvOf f.sender)=fM (q+1))&&(decide (f.sender.length≤100)&&(decide (0≤(fM q).depth)&&decide ((fM q).depth≤100)))))))))
theorem next_ok0:zsf 0=true:=by decide +kernel
theorem next_ok1:zsf 1=true:=by decide +kernel
theorem next_ok2:zsf 2=true:=by decide +kernel
theorem next_ok3:zsf 3=true:=by decide +kernel
theorem fL_ok0:∀ e∈fL 0,okE e=true:=by decide +kernel
theorem fL_ok1:∀ e∈fL 1,okE e=true:=by decide +kernel
theorem fL_ok2:∀ e∈fL 2,okE e=true:=by decide +kernel
theorem fL_ok3:∀ e∈fL 3,okE e=true:=by decide +kernel
theorem fL_ok4:∀ e∈fL 4,okE e=true:=by decide +kernel
theorem fL_ok (q:Nat):(fL q).length≤5∧0 < (fL q).length∧∀ e∈fL q,okE e=true:=by
 match q with
 | 0=>exact⟨by decide,by decide,fL_ok0⟩
 | 1=>exact⟨by decide,by decide,fL_ok1⟩
 | 2=>exact⟨by decide,by decide,fL_ok2⟩
 | 3=>exact⟨by decide,by decide,fL_ok3⟩
 | q+4=>exact⟨by show (fL 4).length≤5;decide,by show 0 < (fL 4).length;decide,fL_ok4⟩
theorem zjl (q:Nat):Good (fL q):=good_of (by have:=(fL_ok q).1;omega) (fL_ok q).2.2
theorem zsi {q:Nat} (h:zsf q=true):AC prog 39 [evs (fL q),S fus,I (fK q),S (fKey q),.agg (ctc (fCt q)),I 1] (evI (fM (q+1),0)):=by
 unfold zsf at h
 simp only[Bool.and_eq_true,decide_eq_true_eq,beq_iff_eq,Bool.not_eq_true']at h
 obtain⟨h1,h2,h3,h4,h5,h6,h7,h8,h9,h10⟩:=h
 obtain⟨k1,k2,k3⟩:=fL_ok q
 obtain⟨m1,m2,_,_⟩:=ztk h4
 have hx:(fL q)[0]? = some ((fL q).getD 0 evZ):=by rw[List.getElem?_eq_getElem k2];simp[List.getD,k2]
 rw[← h7]
 exact next_ac (fL q) (zjl q) _ hx _ rfl (fun h=>by rw[h]at h1;cases h1) _ h2 (fM q) h3 h9 (by omega) _ rfl fus (fK q) (fKey q) (fCt q) 1 _ rfl m1 m2 h5 h6 (by omega)
theorem fPut (q:Nat) (hq:q < 4):getE (fL q) (fM (q+1)).id=none∧putE (fL q) (fM (q+1))=(fL (q+1),0):=by
 match q,hq with
 | 0,_=>decide +kernel
 | 1,_=>decide +kernel
 | 2,_=>decide +kernel
 | 3,_=>decide +kernel
theorem fE0_sign:signE (zk0 frm fus 1) (srvOf fus)=fE0:=by decide +kernel
theorem first_fresh:okE (zk0 frm fus 1)=true∧zgg (zk0 frm fus 1)=0∧zcp (zk0 frm fus 1) []=0:=by decide +kernel
def zq1:AV:=.tup [evs fMade,I 0]
theorem zxi:PureR zq1:=by
 intro r hr
 simp only[List.mem_cons,List.not_mem_nil,or_false]at hr
 rcases hr with rfl|rfl
 · exact zyk _
 · exact zx1 _
def nilA:AV:=.v (.slice none 0 0)
def fcA (q:Nat):List AV:=match q with
 | 1=>[S [],I 0,I 0,B false,S [],nilA,nilA]++lvsc (defLv fus)
 | q=>[S [],I (fCt q).n,I 0,B false,S [],nilA,nilA,nilA,nilA,I 0,I 0,I 0,I 0,I 0,I 0,I 0]
def fwA (q:Nat):List AV:=[I 0,S [],S [],I (fK q),B false,S (fKey q),I 0,I 0,nilA,nilA]++fcA q++[I 0,S [],I 0]
def fwAll:AV:=.agg (fwA 0++fwA 1++fwA 2++fwA 3)
theorem evc_dj (X:List Nat) (x:Evt):∀ c∈evc x,dj X c=true:=List.all_eq_true.1 (show (evc x).all (dj X)=true from rfl)
theorem broom_ac  : AC prog 20 [S frm,S fus,I 1,I 1,I 0] (zq1):=by
 refine AC.ob func20 ntmps20 results20 (zzm (zx2 _) (zx2 _) (zx1 _) (zx1 _) (zx1 _)) (zxi) fun w S'=>AWp.of_vc [36] ?_
 have hfirst:=zk1 frm fus 1 _ rfl (ztk first_fresh.1).1 (ztk first_fresh.1).2.1 first_fresh.2.1 first_fresh.2.2 (by show (fus.length)≤1000000;decide)
 have hs:signE (zk0 frm fus 1) (srvOf (zk0 frm fus 1).sender)=fE0:=fE0_sign
 rw[hs]at hfirst
 unfold evI at hfirst
 simp[go_sem]
 refine cpu hfirst ?_
 simp[go_sem]
 refine AWp.drawDeep [36] [36] [] [] [0,1,2,4,3,5] rfl (by kernel_rfl) (fun d d' h=>h) rfl ?_
 simp[go_sem]
 refine⟨evc_dj _ fE0,?_⟩
 refine cpu (zh3 fus) ?_
 simp[go_sem,lvsc]
 refine AWp.loop_vc [] (fun m s=>∃ q v:Nat,q≤4∧m=4 - q∧s.σ 1=S fus∧s.σ 2=I 1∧s.σ 51=fwAll∧s.σ 52=I q∧s.σ 14=evs (fL q)∧s.σ 15=.ref 36 v∧s.ver 36=v∧s.h 36=.arr 45 29 ((fMade.take (q+1)).map ev)) 4 ⟨0,by simp[go_sem,fwAll,fwA,fcA,fK,fKey,fCt,lvsc,nilA,fL,fMade,fc0]⟩ ?_
 rintro m s ⟨q,v,hq,rfl,i1,i2,i51,i52,i14,i15,jv,jh⟩
 have h4:q=0∨q=1∨q=2∨q=3∨q=4:=by omega
 rcases h4 with rfl|rfl|rfl|rfl|rfl
 case inl =>
  have hnx:=zsi next_ok0
  have hpt:=fPut 0 (by decide)
  have hget:=yi1 (fL 0) (fM (0+1)).id
  rw[hpt.1]at hget
  have hput:=zzy (fL 0) (fM (0+1)) (zjl 0).ok.sm ((zjl (0+1)).ok.sm _ (by decide +kernel)) (by decide)
  rw[hpt.2]at hput
  unfold evI at hnx
  unfold optE at hget
  unfold evsI at hput
  have hw0:IntKind.i64.wrap ((0:Nat)+1:Int)=1:=by decide
  simp[go_sem,i1,i2,i51,i52,i14,i15,jv,jh,hw0,fwAll,fwA,fcA,lvsc,nilA]
  refine CallSem.by hnx ⟨.refl _,.refl _,.refl _,.refl _,.agg ⟨.refl _,.refl _,.refl _,.refl _,.refl _,.nil _,.nil _,.nil _,.nil _,.refl _,.refl _,.refl _,.refl _,.refl _,.refl _,.refl _,trivial⟩,.refl _,trivial⟩ (by simp[go_sem]) ?_
  simp[go_sem,i1,i2,i51,i52,i14,i15,jv,jh,hw0]
  refine cpu hget ?_
  simp[go_sem,i1,i2,i51,i52,i14,i15,jv,jh,hw0]
  refine cpu hput ?_
  simp[go_sem,i1,i2,i51,i52,i14,i15,jv,jh,hw0,fMade]
  exact⟨3,by omega,1,by omega,rfl,rfl,by decide,rfl,rfl⟩
 case inr.inl =>
  have hnx:=zsi next_ok1
  have hpt:=fPut 1 (by decide)
  have hget:=yi1 (fL 1) (fM (1+1)).id
  rw[hpt.1]at hget
  have hput:=zzy (fL 1) (fM (1+1)) (zjl 1).ok.sm ((zjl (1+1)).ok.sm _ (by decide +kernel)) (by decide)
  rw[hpt.2]at hput
  unfold evI at hnx
  unfold optE at hget
  unfold evsI at hput
  have hw1:IntKind.i64.wrap ((1:Nat)+1:Int)=2:=by decide
  simp[go_sem,i1,i2,i51,i52,i14,i15,jv,jh,hw1,fwAll,fwA,fcA,lvsc,nilA]
  refine CallSem.by hnx ⟨.refl _,.refl _,.refl _,.refl _,.agg ⟨.refl _,.refl _,.refl _,.refl _,.refl _,.nil _,.nil _,.refl _,.refl _,.refl _,.refl _,.refl _,.refl _,.refl _,.refl _,.refl _,trivial⟩,.refl _,trivial⟩ (by simp[go_sem]) ?_
  simp[go_sem,i1,i2,i51,i52,i14,i15,jv,jh,hw1]
  refine cpu hget ?_
  simp[go_sem,i1,i2,i51,i52,i14,i15,jv,jh,hw1]
  refine cpu hput ?_
  simp[go_sem,i1,i2,i51,i52,i14,i15,jv,jh,hw1,fMade]
  exact⟨2,by omega,2,by omega,rfl,rfl,by decide,rfl,rfl⟩
 case inr.inr.inl =>
  have hnx:=zsi next_ok2
  have hpt:=fPut 2 (by decide)
  have hget:=yi1 (fL 2) (fM (2+1)).id
  rw[hpt.1]at hget
  have hput:=zzy (fL 2) (fM (2+1)) (zjl 2).ok.sm ((zjl (2+1)).ok.sm _ (by decide +kernel)) (by decide)
  rw[hpt.2]at hput
  unfold evI at hnx
  unfold optE at hget
  unfold evsI at hput
  have hw2:IntKind.i64.wrap ((2:Nat)+1:Int)=3:=by decide
  simp[go_sem,i1,i2,i51,i52,i14,i15,jv,jh,hw2,fwAll,fwA,fcA,lvsc,nilA]
  refine CallSem.by hnx ⟨.refl _,.refl _,.refl _,.refl _,.agg ⟨.refl _,.refl _,.refl _,.refl _,.refl _,.nil _,.nil _,.nil _,.nil _,.refl _,.refl _,.refl _,.refl _,.refl _,.refl _,.refl _,trivial⟩,.refl _,trivial⟩ (by simp[go_sem]) ?_
  simp[go_sem,i1,i2,i51,i52,i14,i15,jv,jh,hw2]
  refine cpu hget ?_
  simp[go_sem,i1,i2,i51,i52,i14,i15,jv,jh,hw2]
  refine cpu hput ?_
  simp[go_sem,i1,i2,i51,i52,i14,i15,jv,jh,hw2,fMade]
  exact⟨1,by omega,3,by omega,rfl,rfl,by decide,rfl,rfl⟩
 case inr.inr.inr.inl =>
  have hnx:=zsi next_ok3
  have hpt:=fPut 3 (by decide)
  have hget:=yi1 (fL 3) (fM (3+1)).id
  rw[hpt.1]at hget
  have hput:=zzy (fL 3) (fM (3+1)) (zjl 3).ok.sm ((zjl (3+1)).ok.sm _ (by decide +kernel)) (by decide)
  rw[hpt.2]at hput
  unfold evI at hnx
  unfold optE at hget
  unfold evsI at hput
  have hw3:IntKind.i64.wrap ((3:Nat)+1:Int)=4:=by decide
  simp[go_sem,i1,i2,i51,i52,i14,i15,jv,jh,hw3,fwAll,fwA,fcA,lvsc,nilA]
  refine CallSem.by hnx ⟨.refl _,.refl _,.refl _,.refl _,.agg ⟨.refl _,.refl _,.refl _,.refl _,.refl _,.nil _,.nil _,.nil _,.nil _,.refl _,.refl _,.refl _,.refl _,.refl _,.refl _,.refl _,trivial⟩,.refl _,trivial⟩ (by simp[go_sem]) ?_
  simp[go_sem,i1,i2,i51,i52,i14,i15,jv,jh,hw3]
  refine cpu hget ?_
  simp[go_sem,i1,i2,i51,i52,i14,i15,jv,jh,hw3]
  refine cpu hput ?_
  simp[go_sem,i1,i2,i51,i52,i14,i15,jv,jh,hw3,fMade]
  exact⟨4,by omega,rfl,rfl,by decide,rfl,rfl⟩
 case inr.inr.inr.inr =>
  simp[go_sem,i1,i2,i51,i52,i14,i15,jv,jh]
  refine PostR.retW [36] (r0:=zq1) ?_ (.refl _)
  simp[go_sem,i1,i2,i51,i52,i14,i15,jv,jh,zq1,fMade]
def ztl (l:List Evt) (i k:Nat):Bool:=!((l.getD i evZ).id==(l.getD k evZ).id&&tornE (l.getD i evZ) (l.getD k evZ))
def okRow (l:List Evt) (i:Nat):Bool:=(List.range i).all (ztl l i)
def zdt (l:List Evt):Bool:=(List.range l.length).all (okRow l)
theorem yfj {p:Nat→Bool} {n:Nat} (h:∀ j,j < n→p j=true):(List.range n).all p=true:=List.all_eq_true.2 fun j hj=>h j (List.mem_range.1 hj)
theorem yfk {p:Nat→Bool} {n j:Nat} (hj:j < n) (h:p j=false):(List.range n).all p=false:=by
 cases hc:(List.range n).all p with
 | false=>rfl
 | true=>rw[List.all_eq_true.1 hc j (List.mem_range.2 hj)]at h;cases h
theorem apart_ac (l:List Evt) (hl:l.length≤100000) (hs:∀ x∈l,SmE x):AC prog 5 [evs l] (B (zdt l)):=by
 refine AC.ob func5 ntmps5 results5 (zzi (zyk _)) (zx0 _) fun w S'=>AWp.of_vc [] ?_
 obtain⟨r,hr⟩:∃ r,zdt l=r:=⟨_,rfl⟩
 rw[hr]
 unfold zdt at hr
 simp[go_sem]
 refine AWp.loop_vc [] (fun m s=>∃ q:Nat,q≤l.length∧m=l.length - q∧s.σ 0=evs l∧s.σ 3=I q∧∀ j,j < q→okRow l j=true) l.length ⟨0,by simp[go_sem]⟩ ?_
 rintro m s ⟨q,hq,rfl,h0,h3,hok⟩
 have hws:IntKind.i64.wrap ((q:Int)+1)=(q:Int)+1:=wrapB (by omega) (by omega)
 by_cases hlt:q < l.length
 · obtain⟨x,hx⟩:∃ x,l[q]=x:=⟨_,rfl⟩
   have hxg:l.getD q evZ=x:=by rw[← hx];simp[List.getD,hlt]
   have hxs:SmE x:=hs x (by rw[← hx];exact List.getElem_mem hlt)
   simp[go_sem,h0,h3,hlt]
   refine AWp.loop_vc [] (fun m s=>∃ p:Nat,p≤q∧m=q - p∧s.σ 0=evs l∧s.σ 3=I q∧s.σ 4=I p∧∀ j,j < p→ztl l q j=true) q ⟨0,by simp[go_sem,h0,h3]⟩ ?_
   clear h0 h3 s
   rintro m s ⟨p,hp,rfl,h0,h3,h4,hokp⟩
   have hwp:IntKind.i64.wrap ((p:Int)+1)=(p:Int)+1:=wrapB (by omega) (by omega)
   by_cases hlp:p < q
   · have hlp2:p < l.length:=by omega
     obtain⟨y,hy⟩:∃ y,l[p]=y:=⟨_,rfl⟩
     have hyg:l.getD p evZ=y:=by rw[← hy];simp[List.getD,hlp2]
     have hys:SmE y:=hs y (by rw[← hy];exact List.getElem_mem hlp2)
     have hpair:ztl l q p=!(x.id==y.id&&tornE x y):=by unfold ztl;rw[hxg,hyg]
     simp[go_sem,h0,h3,h4,hlp]
     refine da ?_
     by_cases c1:x.id=y.id
     · simp[go_sem,h0,h3,h4,hlt,hlp2,hx,hy,c1]
       refine CalmThen.pure (torn_ac x y hxs hys) rfl ?_
       cases ht:tornE x y with
       | true =>
        have:r=false:=by
         rw[← hr]
         exact yfk hlt (yfk hlp (by rw[hpair,ht];simp[c1]))
        simp[go_sem]
        refine PostR.ret ?_
        simp[go_sem,this]
       | false =>
        simp[go_sem,h0,h3,h4,hwp]
        refine⟨q - (p+1),by omega,p+1,by omega,rfl,by omega,fun j hj=>?_⟩
        rcases Nat.lt_succ_iff_lt_or_eq.1 hj with h|rfl
        · exact hokp j h
        · rw[hpair,ht];simp
     · have c2:(x.id==y.id)=false:=beq_eq_false_iff_ne.2 c1
       simp[go_sem,h0,h3,h4,hlt,hlp2,hx,hy,c1,c2,hwp]
       refine⟨q - (p+1),by omega,p+1,by omega,rfl,by omega,fun j hj=>?_⟩
       rcases Nat.lt_succ_iff_lt_or_eq.1 hj with h|rfl
       · exact hokp j h
       · rw[hpair,c2];simp
   · simp[go_sem,h0,h3,h4,hlp,hws]
     refine⟨l.length - (q+1),by omega,q+1,by omega,rfl,by omega,fun j hj=>?_⟩
     rcases Nat.lt_succ_iff_lt_or_eq.1 hj with h|rfl
     · exact hok j h
     · exact yfj fun k hk=>hokp k (by omega)
 · have:r=true:=by rw[← hr];exact yfj fun j hj=>hok j (by omega)
   simp[go_sem,h0,h3,hlt]
   refine PostR.ret ?_
   simp[go_sem,this]
theorem yfx (r:RoomD) {l:List Evt} {q:Nat} (h:q < l.length):recvAll r (l.take (q+1))=(recvR (recvAll r (l.take q)) l[q]).1:=by
 unfold recvAll
 rw[List.take_succ_eq_append_getElem h,List.foldl_append];rfl
theorem RoomIn.recvAll {U:List Evt} (hU:Pool U):∀ (l:List Evt) {K:Nat} {r:RoomD},RoomIn U K r→(∀ e∈l,yp6 (kept e)=0→kept e∈U)→RoomIn U (K+l.length) (recvAll r l)
 | [],K,r,h,_=>h
 | e::l,K,r,h,he=>by
  have:=RoomIn.recvAll hU l (h.recv hU (he e (List.mem_cons_self ..))) fun x hx=>he x (List.mem_cons_of_mem _ hx)
  rw[List.length_cons,show K+(l.length+1)=K+1+l.length from by omega]
  exact this
theorem zsb (id:Bytes):∃ b,(newR id).1=room0 b:=by
 unfold newR
 split
 · exact⟨_,rfl⟩
 · exact⟨_,rfl⟩
theorem zjb (x:Evt):∀ c∈evc x,zv6 c=true:=List.all_eq_true.1 (show (evc x).all zv6=true from rfl)
theorem yfv (U:List Evt) (hU:Pool U) (id:Bytes) (hid:id.length≤1000000000000) (l:List Evt) (hl:l.length≤300) (hs:∀ x∈l,SmE x) (he:∀ e∈l,yp6 (kept e)=0→kept e∈U):AC prog 7 [S id,evs l] (room (recvAll (newR id).1 l)):=by
 refine AC.ob func7 ntmps7 results7 (zzj (zx2 _) (zyk _)) (zy8 _) fun w S'=>AWp.of_vc [] ?_
 obtain⟨T,hT⟩:∃ T,recvAll (newR id).1 l=T:=⟨_,rfl⟩
 rw[hT]
 simp[go_sem]
 have hnew:=zr9 id hid
 obtain⟨b,hb⟩:=zsb id
 obtain⟨N,hN⟩:∃ N,newR id=N:=⟨_,rfl⟩
 rw[hN]at hnew hb hT
 obtain⟨r0,n0⟩:=N
 simp only at hb hT
 subst hb
 unfold roomI room roomC rowsA at hnew
 simp only at hnew
 refine cpu hnew ?_
 simp[go_sem,room0]
 have h0:RoomIn U 0 (room0 b):=RoomIn.new b
 refine AWp.loop_vc [] (fun m s=>∃ q:Nat,q≤l.length∧m=l.length - q∧s.σ 1=evs l∧s.σ 7=I q∧s.σ 4=.rptr 4 (s.ver 4) 0 0∧s.h 4=.box (roomZ [])∧s.σ 5=.rptr 5 (s.ver 5) 0 0∧s.h 5=.box (roomC (recvAll (room0 b) (l.take q)))) l.length ⟨0,by simp[go_sem,roomZ,roomC,room0,recvAll,rowsA]⟩ ?_
 rintro m s ⟨q,hq,rfl,i1,i7,i4,k4,i5,k5⟩
 have hws:IntKind.i64.wrap ((q:Int)+1)=(q:Int)+1:=wrapB (by omega) (by omega)
 have hR:RoomIn U q (recvAll (room0 b) (l.take q)):=by
  have:=RoomIn.recvAll hU (l.take q) h0 fun e hx=>he e (List.mem_of_mem_take hx)
  rw[List.length_take,Nat.min_eq_left hq,Nat.zero_add]at this
  exact this
 by_cases hlt:q < l.length
 · have hsu:=yfx (room0 b) hlt
   obtain⟨x,hx⟩:∃ x,l[q]=x:=⟨_,rfl⟩
   rw[hx]at hsu
   have hxm:x∈l:=by rw[← hx];exact List.getElem_mem hlt
   obtain⟨R,hRe⟩:∃ R,recvAll (room0 b) (l.take q)=R:=⟨_,rfl⟩
   rw[hRe]at k5 hR hsu
   have hrec:=yfu U hU q (by omega) R hR x (hs x hxm) (he x hxm)
   obtain⟨R1,hR1⟩:∃ R1,recvR R x=R1:=⟨_,rfl⟩
   rw[hR1]at hrec hsu
   unfold yfw room roomC rowsA at hrec
   unfold roomC rowsA at k5
   unfold roomZ at k4
   simp[go_sem,i1,i7,i4,k4,i5,k5,hlt,hx]
   refine AWp.drawDeep [] [] [5] [20] [0,1,2,3,4,5,6,7,8,9,10] rfl (by kernel_rfl) (fun d d' h=>h) rfl ?_
   simp[go_sem,i1,i7,i4,k4,i5,k5,hlt,hx]
   refine⟨zjb x,?_⟩
   refine CalmThen.pure hrec rfl ?_
   simp[go_sem,i1,i7,i4,k4,i5,k5,hlt,hx,hws]
   exact⟨l.length - (q+1),by omega,q+1,by omega,rfl,by omega,rfl,by rw[hsu];rfl⟩
 · have hqe:q=l.length:=by omega
   subst hqe
   rw[List.take_of_length_le (Nat.le_refl _),hT]at k5
   unfold roomC rowsA at k5
   unfold roomZ at k4
   simp[go_sem,i1,i7,i4,k4,i5,k5]
   refine PostR.ret ?_
   simp[go_sem,i4,room,roomC,rowsA]
noncomputable def fR (q:Nat):RoomD:=recvAll (room0 frm) (fMade.take q)
theorem fresh0:(recvR (fR 0) fE0).2=(4,0):=by decide +kernel
theorem fresh1:(recvR (fR 1) fE1).2=(4,0):=by decide +kernel
theorem fresh2:(recvR (fR 2) fE2).2=(4,0):=by decide +kernel
theorem fresh3:(recvR (fR 3) fE3).2=(4,0):=by decide +kernel
theorem fresh4:(recvR (fR 4) fE4).2=(4,0):=by decide +kernel
theorem fresh5:(fR 5).state.length=5∧(fR 5).heads.length=1:=by decide +kernel
theorem zsa:newR frm=(room0 frm,0):=by
 unfold newR
 rw[if_pos (by decide +kernel)]
def fE (q:Nat):Evt:=fMade.getD q evZ
theorem fresh_at (q:Nat) (hq:q < 5):(recvR (fR q) (fE q)).2=(4,0):=by
 match q,hq with
 | 0,_=>exact fresh0
 | 1,_=>exact fresh1
 | 2,_=>exact fresh2
 | 3,_=>exact fresh3
 | 4,_=>exact fresh4
theorem zjn:∀ e∈fMade,kept e=e:=by decide +kernel
theorem zjp:Pool fMade :=
 ⟨by decide,fun e he=>(ztk (zjo e he)).1,fun e he=>(ztk (zjo e he)).2.1,fun e he=>by have:=(ztk (zjo e he)).2.2.1;omega,fun e he=>by have:=(ztk (zjo e he)).2.2.2;omega⟩
theorem zjm:∀ e∈fMade,yp6 (kept e)=0→kept e∈fMade:=fun e he _=>by rw[zjn e he];exact he
theorem fR_in (q:Nat) (hq:q≤5):RoomIn fMade q (fR q):=by
 have:=RoomIn.recvAll zjp (fMade.take q) (RoomIn.new frm) fun e hx=>zjm e (List.mem_of_mem_take hx)
 have hl:fMade.length=5:=rfl
 rw[List.length_take,hl,Nat.min_eq_left hq,Nat.zero_add]at this
 exact this
noncomputable def zl8:AV:=.tup [room (fR 5),B true]
theorem zxa:PureR zl8:=by
 intro r hr
 simp only[List.mem_cons,List.not_mem_nil,or_false]at hr
 rcases hr with rfl|rfl
 · exact zy8 _
 · exact zx0 _
theorem fresh_ac  : AC prog 12 [] (zl8):=by
 refine AC.ob func12 ntmps12 results12 (pures0) (zxa) fun w S'=>AWp.of_vc [] ?_
 have hroom:=broom_ac
 unfold zq1 at hroom
 have hnew:=zr9 frm (by decide)
 rw[zsa]at hnew
 unfold roomI room roomC rowsA at hnew
 obtain⟨M,hM⟩:∃ M,fMade=M:=⟨_,rfl⟩
 have hMl:M.length=5:=by rw[← hM];rfl
 rw[hM]at hroom
 simp[go_sem]
 refine cpu hroom ?_
 simp[go_sem]
 refine cpu hnew ?_
 simp[go_sem,room0]
 refine AWp.loop_vc [] (fun m s=>∃ q:Nat,q≤5∧m=5 - q∧s.σ 2=evs M∧s.σ 3=I 0∧s.σ 5=I 0∧s.σ 6=I q∧s.σ 0=.rptr 0 (s.ver 0) 0 0∧s.h 0=.box (roomZ [])∧s.σ 4=.rptr 4 (s.ver 4) 0 0∧s.h 4=.box (roomC (fR q))) 5 ⟨0,by simp[go_sem,roomZ,roomC,rowsA,fR,recvAll,room0]⟩ ?_
 rintro m s ⟨q,hq,rfl,i2,i3,i5,i6,i0,k0,i4,k4⟩
 have hws:IntKind.i64.wrap ((q:Int)+1)=(q:Int)+1:=wrapB (by omega) (by omega)
 by_cases hlt:q < 5
 · have hlM:q < M.length:=by omega
   have hlI:(q:Int) < 5:=by omega
   obtain⟨x,hx⟩:∃ x,M[q]=x:=⟨_,rfl⟩
   have hxm:x∈fMade:=by rw[hM,← hx];exact List.getElem_mem hlM
   have hxe:fE q=x:=by unfold fE;rw[hM,← hx];simp[List.getD,hlM]
   have hat:=fresh_at q hlt
   rw[hxe]at hat
   have hsu:fR (q+1)=(recvR (fR q) x).1:=by
    unfold fR
    rw[hM,yfx (room0 frm) hlM,hx]
   have hrec:=yfu fMade zjp q (by omega) (fR q) (fR_in q hq) x (ztk (zjo x hxm)).1 (zjm x hxm)
   obtain⟨R,hR⟩:∃ R,fR q=R:=⟨_,rfl⟩
   rw[hR]at k4 hat hsu hrec
   obtain⟨R1,hR1⟩:∃ R1,recvR R x=R1:=⟨_,rfl⟩
   rw[hR1]at hrec hsu hat
   unfold yfw room roomC rowsA at hrec
   rw[hat]at hrec
   unfold roomC rowsA at k4
   unfold roomZ at k0
   simp[go_sem,i2,i3,i5,i6,i0,k0,i4,k4,hlt,hlI,hx,hMl]
   refine AWp.drawDeep [] [7] [] [] [0,1,2,3,4,5,6,7,8,9,10,11,12,13] rfl (by kernel_rfl) (fun d d' h=>h) rfl ?_
   simp[go_sem,i2,i3,i5,i6,i0,k0,i4,k4,hlt,hlI,hlM,hx,hMl]
   refine⟨zjb x,?_⟩
   refine CalmThen.pure hrec rfl ?_
   simp[go_sem,i2,i3,i5,i6,i0,k0,i4,k4,hlt,hlI,hlM,hx,hMl,hws]
   exact⟨5 - (q+1),by omega,q+1,by omega,rfl,by omega,rfl,by rw[hsu];rfl⟩
 · have hqe:q=5:=by omega
   subst hqe
   unfold roomC rowsA at k4
   unfold roomZ at k0
   simp[go_sem,i2,i3,i5,i6,i0,k0,i4,k4,hMl]
   refine PostR.ret ?_
   simp[go_sem,i0,zl8,room,roomC,rowsA]
theorem zb6  : AC prog 6 [] (B true):=by
 refine AC.ob func6 ntmps6 results6 (pures0) (zx0 _) fun w S'=>AWp.of_vc [] ?_
 have hfr:=fresh_ac
 unfold zl8 room roomC rowsA at hfr
 obtain⟨h1,h2⟩:=fresh5
 obtain⟨R,hR⟩:∃ R,fR 5=R:=⟨_,rfl⟩
 rw[hR]at hfr h1 h2
 simp[go_sem]
 refine cpu hfr ?_
 simp[go_sem,h1,h2]
 exact rets
end Go.Proofs.YthjmjdleecmaeaaGreat
namespace Go.Proofs.YthjmjdleecmaeaaGreat
open Go Go.Abs
variable {id0:Int} {x y:RoomD} {U F:List Evt}
theorem zo6 (e:Evt):(kept e).id=e.id:=by
 unfold kept
 split<;>rfl
end Go.Proofs.YthjmjdleecmaeaaGreat
