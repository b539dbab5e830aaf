/- Several texts of the proof in one: B14, B15, B16, B17. No condition. -/
import Derived.Test.YthjmjdleecmaeaaGreatL21
set_option linter.unusedSimpArgs false
set_option linter.unusedVariables false
set_option maxHeartbeats 4000000
set_option maxRecDepth 8000
namespace Go.Proofs.YthjmjdleecmaeaaGreat
open Go Go.Abs Go.Proofs.Tryz
def zou (p:Bytes):Bool:=p.all zww&&(decide (1≤p.length)&&decide (p.length≤32))
theorem zch {α:Type} (p:α→Bool) (l:List α) (q:Nat) (h:q < l.length):(l.take (q+1)).all p=((l.take q).all p&&p l[q]):=by
 rw[List.take_succ_eq_append_getElem h,List.all_append];simp
theorem zb7 {α:Type} {p:α→Bool} {l:List α} {q:Nat} (h:q < l.length) (hp:p l[q]=false):l.all p=false:=by
 rw[List.all_eq_false];exact⟨l[q],List.getElem_mem h,by rw[hp];decide⟩
theorem isPol_ac (p:Bytes) (hs:p.length≤1000000000000):AC prog 159 [S p] (B (zou p)):=by
 refine AC.ob func159 ntmps159 results159 (zzi (zx2 _)) (zx0 _) fun w S'=>AWp.of_vc [] ?_
 obtain⟨r,hr⟩:∃ r,zou p=r:=⟨_,rfl⟩
 rw[hr]
 unfold zou at hr
 simp[go_sem]
 refine AWp.loop_vc [] (fun m s=>∃ q:Nat,q≤p.length∧m=p.length - q∧s.σ 0=S p∧s.σ 5=I p.length∧s.σ 6=I q∧(p.take q).all zww=true) p.length ⟨0,by simp[go_sem]⟩ ?_
 rintro m s ⟨q,hq,rfl,h0,h5,h6,hno⟩
 by_cases hlt:q < p.length
 · obtain⟨c,hc⟩:∃ c,p[q]=c:=⟨_,rfl⟩
   obtain⟨n,hn⟩:∃ n,c.toNat=n:=⟨_,rfl⟩
   have hp:zww c=(decide (33≤n)&&decide (n≤126)):=by unfold zww;rw[hn]
   by_cases c1:n < 33
   · have k1:(n:Int) < 33:=by omega
     have hf:zww c=false:=by rw[hp];simp;omega
     rw[zb7 hlt (by rw[hc,hf])]at hr
     rw[← hr]
     simp[go_sem,h0,h5,h6,hlt,hc,hn,k1]
     exact rets
   · have k1:¬ (n:Int) < 33:=by omega
     by_cases c2:126 < n
     · have k2:(126:Int) < n:=by omega
       have hf:zww c=false:=by rw[hp];simp;omega
       rw[zb7 hlt (by rw[hc,hf])]at hr
       rw[← hr]
       simp[go_sem,h0,h5,h6,hlt,hc,hn,k1,k2]
       exact rets
     · have k2:¬ (126:Int) < n:=by omega
       have hz:zww c=true:=by rw[hp];simp;omega
       have hn2:=zch zww p q hlt
       rw[hno,hc,hz]at hn2
       have h3:(p.take (q+1)).all zww=true:=hn2
       simp[go_sem,h0,h5,h6,hlt,hc,hn,k1,k2,yro hlt (show p.length≤maxLen by unfold maxLen;omega),-List.all_eq_true]
       exact⟨p.length - (q+1),by omega,q+1,by omega,rfl,rfl,h3⟩
 · have htk:p.take q=p:=List.take_of_length_le (by omega)
   rw[htk]at hno
   rw[hno]at hr
   by_cases c1:1≤p.length
   · have k1:(1:Int)≤p.length:=by omega
     by_cases c2:p.length≤32
     · have k2:(p.length:Int)≤32:=by omega
       simp[c1,c2]at hr
       rw[hr]
       simp[go_sem,h0,h5,h6,hlt,k1,k2]
       exact rets
     · have k2:¬ (p.length:Int)≤32:=by omega
       simp[c1,c2]at hr
       rw[hr]
       simp[go_sem,h0,h5,h6,hlt,k1,k2]
       exact rets
   · have k1:¬ (1:Int)≤p.length:=by omega
     simp[c1]at hr
     rw[hr]
     simp[go_sem,h0,h5,h6,hlt,k1]
     exact rets
def zu1 (l:List Int) (j:Nat):Int:=if l.getD j 0 < 0 then 1 else if 0 < j∧l.getD j 0≤l.getD (j - 1) 0 then 1 else 0
def zvg (l:List Int):Bool:=zk2 (zu1 l) l.length==0
theorem zvh (l:List Int) (hs:l.length≤1000000000000):AC prog 109 [ints l] (B (zvg l)):=by
 refine AC.ob func109 ntmps109 results109 (zzi (zyr _)) (zx0 _) fun w S'=>AWp.of_vc [] ?_
 obtain⟨r,hr⟩:∃ r,zvg l=r:=⟨_,rfl⟩
 rw[hr]
 unfold zvg at hr
 simp[go_sem]
 refine AWp.loop_vc [] (fun m s=>∃ q:Nat,q≤l.length∧m=l.length - q∧s.σ 0=ints l∧s.σ 5=ints l∧s.σ 6=I l.length∧s.σ 7=I q∧∀ j,j < q→zu1 l j=0) l.length ⟨0,by simp[go_sem]⟩ ?_
 rintro m s ⟨q,hq,rfl,h0,h5,h6,h7,hno⟩
 have hws:IntKind.i64.wrap ((q:Int)+1)=(q:Int)+1:=wrapB (by omega) (by omega)
 by_cases hlt:q < l.length
 · obtain⟨x,hx⟩:∃ x,l[q]=x:=⟨_,rfl⟩
   have hgx:l.getD q 0=x:=by rw[← hx];simp[List.getD,hlt]
   by_cases c1:x < 0
   · have hre:zu1 l q=1:=by unfold zu1;rw[hgx,if_pos c1]
     rw[zk5 hlt hno (by rw[hre];decide),hre]at hr
     rw[← hr]
     simp[go_sem,h0,h5,h6,h7,hlt,hx,c1]
     exact rets
   have hq0:q=0∨∃ p,q=p+1:=by
    cases q with
    | zero=>exact .inl rfl
    | succ p=>exact .inr ⟨p,rfl⟩
   rcases hq0 with hq0|⟨p,hp⟩
   · have hre:zu1 l q=0:=by unfold zu1;rw[hgx,if_neg c1,if_neg (by omega)]
     have hp0:¬ (0:Int) < q:=by omega
     have hp1:¬ 0 < q:=by omega
     simp[go_sem,h0,h5,h6,h7,hlt,hx,c1,hp0,hp1,hws]
     exact⟨l.length - (q+1),by omega,q+1,by omega,rfl,rfl,zet hno hre⟩
   · have hpl:p < l.length:=by omega
     obtain⟨y,hy⟩:∃ y,l[p]=y:=⟨_,rfl⟩
     have hgy:l.getD p 0=y:=by rw[← hy];simp[List.getD,hpl]
     have hre:zu1 l q=if x≤y then 1 else 0:=by
      unfold zu1
      rw[hgx,if_neg c1,show q - 1=p by omega,hgy]
      by_cases hxy:x≤y
      · rw[if_pos ⟨by omega,hxy⟩,if_pos hxy]
      · rw[if_neg (fun h=>hxy h.2),if_neg hxy]
     have hw:IntKind.i64.wrap ((q:Int) - 1)=(p:Int):=by rw[wrapB (by omega) (by omega)];omega
     have hp0:(0:Int) < q:=by omega
     have hp1:0 < q:=by omega
     by_cases c2:x≤y
     · rw[if_pos c2]at hre
       rw[zk5 hlt hno (by rw[hre];decide),hre]at hr
       rw[← hr]
       simp[go_sem,h0,h5,h6,h7,hlt,hx,c1,hw,hp0,hp1,hpl,hy,c2]
       exact rets
     · rw[if_neg c2]at hre
       simp[go_sem,h0,h5,h6,h7,hlt,hx,c1,hw,hp0,hp1,hpl,hy,c2,hws]
       exact⟨l.length - (q+1),by omega,q+1,by omega,rfl,rfl,zet hno hre⟩
 · rw[zk3 fun j hj=>hno j (by omega)]at hr
   rw[← hr]
   simp[go_sem,h0,h5,h6,h7,hlt]
   exact rets
def zr2 (e:Evt):Bool:=if znt e.room [33]≠0∨znt e.sender [64]≠0 then false else if e.kind=2 then znt e.key [64]==0 else if e.kind=9 then zou e.key else true
theorem SmE.names {e:Evt} (h:SmE e):e.room.length≤1000000000000∧e.sender.length≤1000000000000∧e.key.length≤1000000000000∧e.prev.length≤1000000000000∧e.auth.length≤1000000000000:=by
 unfold SmE bkE at h;omega
theorem named_ac (e:Evt) (hs:SmE e):AC prog 108 [ev e] (B (zr2 e)):=by
 refine AC.ob func108 ntmps108 results108 (zzi (zyh _)) (zx0 _) fun w S'=>AWp.of_vc [] ?_
 obtain⟨n1,n2,n3,n4,n5⟩:=hs.names
 obtain⟨r,hr⟩:∃ r,zr2 e=r:=⟨_,rfl⟩
 rw[hr]
 unfold zr2 at hr
 simp[go_sem]
 refine cpu (znr e.room n1) ?_
 by_cases c1:znt e.room [33]=0
 case neg =>
  have g1:(znt e.room [33] != 0)=true:=bne_iff_ne.2 c1
  rw[if_pos (.inl c1)]at hr
  rw[← hr]
  simp[go_sem,c1,g1]
  exact rets
 rw[c1]
 simp[go_sem]
 refine cpu (zns e.sender n2) ?_
 by_cases c2:znt e.sender [64]=0
 case neg =>
  have g1:(znt e.sender [64] != 0)=true:=bne_iff_ne.2 c2
  rw[if_pos (.inr c2)]at hr
  rw[← hr]
  simp[go_sem,c2,g1]
  exact rets
 rw[c2]
 rw[if_neg (by simp[c1,c2])]at hr
 by_cases k2:e.kind=2
 · rw[if_pos k2]at hr
   simp[go_sem,k2]
   refine cpu (zns e.key n3) ?_
   simp[go_sem]
   refine PostR.ret ?_
   simp[go_sem,← hr]
 rw[if_neg k2]at hr
 by_cases k9:e.kind=9
 · rw[if_pos k9]at hr
   simp[go_sem,k9]
   refine cpu (isPol_ac e.key n3) ?_
   simp[go_sem]
   refine PostR.ret ?_
   simp[go_sem,← hr]
 rw[if_neg k9]at hr
 rw[← hr]
 simp[go_sem,k2,k9]
 exact rets
def zpf (k:Int):Bool:=k==2||k==9
def bad1 (e:Evt):Bool:=if e.kind < 1 then true else if 14 < e.kind then true else if e.state≠ykd e.kind then true else if e.key=[] then false else !zpf e.kind
def zgg (e:Evt):Int :=
 if bad1 e=true then 1 else
 if zr2 e=false then 3 else
 if e.time < 0∨1000000000 < e.time∨e.depth < 1∨100000 < e.depth then 2 else
 if 10 < e.prev.length∨8 < e.auth.length then 7 else
 if zvg e.prev=false∨zvg e.auth=false then 8 else
 if e.prev=[]∧e.kind≠1 then 9 else
 if e.kind=1∧0 < e.prev.length+e.auth.length then 6 else zge e.kind e.content
theorem zgh (e:Evt) (hs:SmE e):AC prog 66 [ev e] (I (zgg e)):=by
 refine AC.ob func66 ntmps66 results66 (zzi (zyh _)) (zx1 _) fun w S'=>?_
 obtain⟨n1,n2,n3,n4,n5⟩:=hs.names
 obtain⟨r,hr⟩:∃ r,zgg e=r:=⟨_,rfl⟩
 rw[hr]
 unfold zgg at hr
 refine AWp.step [] ?_
 simp[go_sem]
 refine AWp.cut (fun s=>s.σ 1=.eptr (evc e) 0∧s.σ 3=B (zpf e.kind)) (AWp.of_vc [] ?_) ?_
 · by_cases k2:e.kind=2
   · simp[go_sem,k2,zpf]
   · by_cases k9:e.kind=9
     · simp[go_sem,k2,k9,zpf]
     · have g2:(e.kind==2)=false:=beq_eq_false_iff_ne.2 k2
       have g9:(e.kind==9)=false:=beq_eq_false_iff_ne.2 k9
       simp[go_sem,k2,k9,g2,g9,zpf]
 rintro s ⟨h1,h3⟩
 refine AWp.seq (AWp.block (AWp.cut (fun s=>s.σ 1=.eptr (evc e) 0∧s.σ 12=B (bad1 e)) ?_ ?_))
 · refine da ?_
   by_cases c1:e.kind < 1
   · have hb:bad1 e=true:=by unfold bad1;rw[if_pos c1]
     simp[go_sem,h1,h3,c1,hb]
   by_cases c2:14 < e.kind
   · have hb:bad1 e=true:=by unfold bad1;rw[if_neg c1,if_pos c2]
     simp[go_sem,h1,h3,c1,c2,hb]
   simp[go_sem,h1,h3,c1,c2]
   refine CalmThen.pure (ykg e.kind) rfl ?_
   by_cases c3:e.state=ykd e.kind
   case neg =>
    have g1:(e.state==ykd e.kind)=false:=beq_eq_false_iff_ne.2 c3
    have g2:(e.state != ykd e.kind)=true:=bne_iff_ne.2 c3
    have hb:bad1 e=true:=by unfold bad1;rw[if_neg c1,if_neg c2,if_pos c3]
    simp[go_sem,h1,h3,c1,c2,g1,g2,hb]
   have g3:(ykd e.kind==ykd e.kind)=true:=beq_self_eq_true _
   by_cases c4:e.key=[]
   · have hb:bad1 e=false:=by unfold bad1;rw[if_neg c1,if_neg c2,if_neg (not_not_intro c3),if_pos c4]
     simp[go_sem,h1,h3,c1,c2,c3,g3,c4,hb]
   · have g4:(e.key==([]:Bytes))=false:=beq_eq_false_iff_ne.2 c4
     have g5:e.key.isEmpty=false:=by simpa using c4
     have hb:bad1 e=!zpf e.kind:=by unfold bad1;rw[if_neg c1,if_neg c2,if_neg (not_not_intro c3),if_neg c4]
     simp[go_sem,h1,h3,c1,c2,c3,g3,c4,g4,g5,hb]
 clear h1 h3 s
 rintro s ⟨h1,h12⟩
 refine AWp.of_vc [] ?_
 cases hb1:bad1 e with
 | true =>
  rw[if_pos hb1]at hr
  rw[← hr]
  rw[hb1]at h12
  simp[go_sem,h1,h12]
  exact rets
 | false =>
 rw[hb1]at h12
 rw[if_neg (by simp[hb1])]at hr
 simp[go_sem,h1,h12]
 refine cpu (named_ac e hs) ?_
 cases hb2:zr2 e with
 | false =>
  rw[if_pos hb2]at hr
  rw[← hr]
  simp[go_sem,h1,h12]
  exact rets
 | true =>
 rw[if_neg (by simp[hb2])]at hr
 by_cases t1:e.time < 0
 case pos =>
  rw[if_pos (.inl t1)]at hr
  rw[← hr]
  simp[go_sem,h1,h12,t1]
  exact rets
 by_cases t2:1000000000 < e.time
 case pos =>
  rw[if_pos (.inr (.inl t2))]at hr
  rw[← hr]
  simp[go_sem,h1,h12,t1,t2]
  exact rets
 by_cases t3:e.depth < 1
 case pos =>
  rw[if_pos (.inr (.inr (.inl t3)))]at hr
  rw[← hr]
  simp[go_sem,h1,h12,t1,t2,t3]
  exact rets
 by_cases t4:100000 < e.depth
 case pos =>
  rw[if_pos (.inr (.inr (.inr t4)))]at hr
  rw[← hr]
  simp[go_sem,h1,h12,t1,t2,t3,t4]
  exact rets
 rw[if_neg (by rintro (h|h|h|h);all_goals first|exact t1 h|exact t2 h|exact t3 h|exact t4 h)]at hr
 by_cases t5:10 < e.prev.length
 case pos =>
  have i5:(10:Int) < e.prev.length:=by omega
  rw[if_pos (.inl t5)]at hr
  rw[← hr]
  simp[go_sem,h1,h12,t1,t2,t3,t4,t5,i5]
  exact rets
 have i5:¬ (10:Int) < e.prev.length:=by omega
 by_cases t6:8 < e.auth.length
 case pos =>
  have i6:(8:Int) < e.auth.length:=by omega
  rw[if_pos (.inr t6)]at hr
  rw[← hr]
  simp[go_sem,h1,h12,t1,t2,t3,t4,t5,i5,t6,i6]
  exact rets
 have i6:¬ (8:Int) < e.auth.length:=by omega
 rw[if_neg (by rintro (h|h);all_goals first|exact t5 h|exact t6 h)]at hr
 simp[go_sem,h1,h12,t1,t2,t3,t4,t5,i5,t6,i6]
 refine cpu (zvh e.prev n4) ?_
 cases hb3:zvg e.prev with
 | false =>
  rw[if_pos (.inl hb3)]at hr
  rw[← hr]
  simp[go_sem,h1]
  exact rets
 | true =>
 simp[go_sem,h1]
 refine cpu (zvh e.auth n5) ?_
 cases hb4:zvg e.auth with
 | false =>
  rw[if_pos (.inr hb4)]at hr
  rw[← hr]
  simp[go_sem,h1]
  exact rets
 | true =>
 rw[if_neg (by simp[hb3,hb4])]at hr
 by_cases k1:e.kind=1
 · rw[if_neg (fun h=>h.2 k1)]at hr
   by_cases z:0 < e.prev.length+e.auth.length
   · rw[if_pos ⟨k1,z⟩]at hr
     rw[← hr]
     have iz:(0:Int) < (e.prev.length:Int)+e.auth.length:=by omega
     have iw:IntKind.i64.wrap ((e.prev.length:Int)+e.auth.length)=(e.prev.length:Int)+e.auth.length:=wrapB (by omega) (by omega)
     have hz:e.prev=[]∨¬ e.prev=[]:=Decidable.em _
     rcases hz with hz|hz
     · have iz2:(0:Int) < e.auth.length:=by rw[hz]at iz;simpa using iz
       have iz4:0 < e.auth.length:=by omega
       have iz3:¬ e.auth=[]:=fun h=>by rw[h]at iz2;simp at iz2
       have iw2:IntKind.i64.wrap (e.auth.length:Int)=(e.auth.length:Int):=wrapB (by omega) (by omega)
       simp[go_sem,h1,k1,iz2,iw2,iz3,iz4,hz]
       exact rets
     · simp[go_sem,h1,k1,iz,iw,hz]
       exact rets
   · rw[if_neg (fun h=>z h.2)]at hr
     have hz:e.prev=[]:=List.length_eq_zero_iff.1 (by omega)
     have ha:e.auth=[]:=List.length_eq_zero_iff.1 (by omega)
     have w0:IntKind.i64.wrap 0=0:=by decide
     simp[go_sem,h1,k1,hz,ha,w0]
     refine AWp.of_vc [] ?_
     simp[go_sem,h1,k1]
     rw[k1]at hr
     refine cpu (zgf 1 e.content hs.c) ?_
     simp[go_sem]
     refine PostR.ret ?_
     simp[go_sem,hr]
 · have g1:(e.kind==1)=false:=beq_eq_false_iff_ne.2 k1
   have g1':(e.kind != 1)=true:=bne_iff_ne.2 k1
   by_cases hz:e.prev=[]
   · rw[if_pos ⟨hz,k1⟩]at hr
     rw[← hr]
     simp[go_sem,h1,k1,g1,g1',hz]
     exact rets
   · rw[if_neg (fun h=>hz h.1),if_neg (fun h=>k1 h.1)]at hr
     simp[go_sem,h1,k1,g1,g1',hz]
     refine AWp.of_vc [] ?_
     simp[go_sem,h1]
     refine cpu (zgf e.kind e.content hs.c) ?_
     simp[go_sem]
     refine PostR.ret ?_
     simp[go_sem,hr]
theorem zjd (e:Evt):((evc e).drop 27).take 2=[S e.sig.server,I e.sig.sum]:=rfl
def yp6 (e:Evt):Int:=if zgg e≠0 then zgg e else
 if yra e=false∧e.content≠yk1 e.kind e.content then 6 else
 if idOf e≠e.id then 11 else if e.sig≠⟨srvOf e.sender,e.id⟩ then 12 else 0
theorem yp7 (e:Evt) (hs:SmE e):AC prog 43 [ev e] (I (yp6 e)):=by
 refine AC.ob func43 ntmps43 results43 (zzi (zyh _)) (zx1 _) fun w S'=>AWp.of_vc [] ?_
 obtain⟨n1,n2,n3,n4,n5⟩:=hs.names
 obtain⟨r,hr⟩:∃ r,yp6 e=r:=⟨_,rfl⟩
 rw[hr]
 unfold yp6 at hr
 simp[go_sem]
 refine cpu (zgh e hs) ?_
 by_cases c1:zgg e=0
 case neg =>
  have g1:(zgg e != 0)=true:=bne_iff_ne.2 c1
  rw[if_pos c1]at hr
  rw[← hr]
  simp[go_sem,c1,g1]
  exact rets
 rw[if_neg (not_not_intro c1)]at hr
 rw[c1]
 simp[go_sem]
 refine da ?_
 simp[go_sem]
 refine CalmThen.pure (yrb e hs) rfl ?_
 have hcase:yra e=true∨(yra e=false∧e.content=yk1 e.kind e.content)∨(yra e=false∧e.content≠yk1 e.kind e.content):=by
  cases hw:yra e with
  | true=>exact .inl rfl
  | false =>
   by_cases h:e.content=yk1 e.kind e.content
   · exact .inr (.inl ⟨rfl,h⟩)
   · exact .inr (.inr ⟨rfl,h⟩)
 rcases hcase with hw|⟨hw,hc⟩|⟨hw,hc⟩
 case inr.inr =>
  rw[if_pos ⟨hw,hc⟩]at hr
  rw[hw,← hr]
  simp[go_sem]
  refine CalmThen.pure (yk2 e.kind e.content hs.c) rfl ?_
  simp[go_sem]
  refine CalmThen.pure (yhv e.content (yk1 e.kind e.content)) rfl ?_
  rw[decide_eq_false hc]
  simp[go_sem]
  exact rets
 case inr.inl =>
  rw[if_neg (fun h=>h.2 hc)]at hr
  rw[hw]
  simp[go_sem]
  refine CalmThen.pure (yk2 e.kind e.content hs.c) rfl ?_
  simp[go_sem]
  refine CalmThen.pure (yhv e.content (yk1 e.kind e.content)) rfl ?_
  rw[decide_eq_true hc]
  clear hw hc c1
  simp[go_sem]
  refine da ?_
  simp[go_sem]
  refine CalmThen.pure (znq e hs) rfl ?_
  by_cases c2:idOf e=e.id
  case neg =>
   have g1:(idOf e==e.id)=false:=beq_eq_false_iff_ne.2 c2
   have g2:(idOf e != e.id)=true:=bne_iff_ne.2 c2
   rw[if_pos c2]at hr
   rw[← hr]
   simp[go_sem,c2,g1,g2]
   exact rets
  rw[if_neg (not_not_intro c2)]at hr
  rw[c2]
  simp[go_sem]
  refine da ?_
  simp[go_sem]
  refine CalmThen.pure (yj6 e.sender n2) rfl ?_
  obtain⟨sv,hsv⟩:∃ sv,srvOf e.sender=sv:=⟨_,rfl⟩
  rw[hsv]at hr ⊢
  have hss:e.sig=⟨e.sig.server,e.sig.sum⟩:=rfl
  by_cases c3:e.sig.server=sv
  case neg =>
   have g1:(e.sig.server==sv)=false:=beq_eq_false_iff_ne.2 c3
   rw[if_pos (fun h=>c3 (by rw[h]))]at hr
   rw[← hr]
   simp[go_sem,zjd,c3,g1]
   exact rets
  by_cases c4:e.sig.sum=e.id
  case neg =>
   have g1:(e.sig.sum==e.id)=false:=beq_eq_false_iff_ne.2 c4
   rw[if_pos (fun h=>c4 (by rw[h]))]at hr
   rw[← hr]
   simp[go_sem,zjd,c3,c4,g1]
   exact rets
  rw[if_neg (not_not_intro (by rw[hss,c3,c4]))]at hr
  rw[← hr]
  simp[go_sem,zjd,c3,c4]
  exact rets
 case inl =>
  rw[if_neg (fun h=>by rw[hw]at h;exact absurd h.1 (by decide))]at hr
  rw[hw]
  clear hw c1
  simp[go_sem]
  refine da ?_
  simp[go_sem]
  refine CalmThen.pure (znq e hs) rfl ?_
  by_cases c2:idOf e=e.id
  case neg =>
   have g1:(idOf e==e.id)=false:=beq_eq_false_iff_ne.2 c2
   have g2:(idOf e != e.id)=true:=bne_iff_ne.2 c2
   rw[if_pos c2]at hr
   rw[← hr]
   simp[go_sem,c2,g1,g2]
   exact rets
  rw[if_neg (not_not_intro c2)]at hr
  rw[c2]
  simp[go_sem]
  refine da ?_
  simp[go_sem]
  refine CalmThen.pure (yj6 e.sender n2) rfl ?_
  obtain⟨sv,hsv⟩:∃ sv,srvOf e.sender=sv:=⟨_,rfl⟩
  rw[hsv]at hr ⊢
  have hss:e.sig=⟨e.sig.server,e.sig.sum⟩:=rfl
  by_cases c3:e.sig.server=sv
  case neg =>
   have g1:(e.sig.server==sv)=false:=beq_eq_false_iff_ne.2 c3
   rw[if_pos (fun h=>c3 (by rw[h]))]at hr
   rw[← hr]
   simp[go_sem,zjd,c3,g1]
   exact rets
  by_cases c4:e.sig.sum=e.id
  case neg =>
   have g1:(e.sig.sum==e.id)=false:=beq_eq_false_iff_ne.2 c4
   rw[if_pos (fun h=>c4 (by rw[h]))]at hr
   rw[← hr]
   simp[go_sem,zjd,c3,c4,g1]
   exact rets
  rw[if_neg (not_not_intro (by rw[hss,c3,c4]))]at hr
  rw[← hr]
  simp[go_sem,zjd,c3,c4]
  exact rets
def kept (e:Evt):Evt:=if yra e=true then e else yk4 e
def recvE (e:Evt):Evt×Int:=if yp6 (kept e)=0 then (kept e,0) else (evZ,yp6 (kept e))
theorem SmE.kept {e:Evt} (h:SmE e):SmE (kept e):=by
 unfold Proofs.YthjmjdleecmaeaaGreat.kept
 split
 · exact h
 · exact h.strip
def evI (x:Evt×Int):AV:=.tup [ev x.1,I x.2]
theorem zw4 (x:Evt×Int):PureR (evI x):=by
 intro r hr
 simp only[List.mem_cons,List.not_mem_nil,or_false]at hr
 rcases hr with rfl|rfl
 · exact zyh _
 · exact zx1 _
theorem yft (e:Evt) (hs:SmE e):AC prog 22 [ev e] (evI (recvE e)):=by
 refine AC.ob func22 ntmps22 results22 (zzi (zyh _)) (zw4 _) fun w S'=>AWp.of_vc [1] ?_
 have hsk:=hs.kept
 obtain⟨r,hr⟩:∃ r,recvE e=r:=⟨_,rfl⟩
 rw[hr]
 unfold recvE at hr
 obtain⟨k,hk⟩:∃ k,Proofs.YthjmjdleecmaeaaGreat.kept e=k:=⟨_,rfl⟩
 rw[hk]at hr hsk
 unfold Proofs.YthjmjdleecmaeaaGreat.kept at hk
 simp[go_sem]
 refine cpu (yrb e hs) ?_
 have tail:True:=trivial
 cases hw:yra e with
 | true =>
  rw[if_pos hw]at hk
  subst hk
  simp[go_sem]
  refine cpu (yp7 _ hsk) ?_
  generalize hv:yp6 _=v at hr ⊢
  by_cases c1:v=0
  · rw[if_pos c1]at hr
    rw[← hr,c1]
    simp[go_sem]
    refine PostR.ret ?_
    simp[go_sem,evI]
  · have g1:(v != 0)=true:=bne_iff_ne.2 c1
    rw[if_neg c1]at hr
    rw[← hr]
    simp[go_sem,c1,g1]
    refine PostR.retW [] (r0:=.tup [.agg evZc,I v]) (by simp[go_sem,evZc]) ?_
    exact .tup ⟨.one (.agg yrc),.refl _,trivial⟩
 | false =>
  rw[if_neg (by rw[hw];decide)]at hk
  simp[go_sem]
  refine cpu (yk5 e hs) ?_
  rw[hk]
  simp[go_sem,evc,ctc]
  refine cpu (yp7 _ hsk) ?_
  generalize hv:yp6 _=v at hr ⊢
  by_cases c1:v=0
  · rw[if_pos c1]at hr
    rw[← hr,c1]
    simp[go_sem,evc,ctc]
    refine PostR.ret ?_
    simp[go_sem,evI,evc,ctc]
  · have g1:(v != 0)=true:=bne_iff_ne.2 c1
    rw[if_neg c1]at hr
    rw[← hr]
    simp[go_sem,evc,ctc,c1,g1]
    refine PostR.retW [] (r0:=.tup [.agg evZc,I v]) (by simp[go_sem,evZc]) ?_
    exact .tup ⟨.one (.agg yrc),.refl _,trivial⟩
def verAt (l:List Evt) (j:Nat):Int:=yp6 (l.getD j evZ)
def yge (l:List Evt) (j:Nat):Int:=if (l.getD j evZ).room=(l.getD 0 evZ).room then 0 else 13
def idAt (l:List Evt) (j:Nat):Int:=if 0 < j∧(l.getD j evZ).id≤(l.getD (j - 1) evZ).id then 8 else 0
def yku (l:List Evt):Int:=if 2000 < l.length then 7 else
 if zk2 (verAt l) l.length≠0 then zk2 (verAt l) l.length else
 if zk2 (yge l) l.length≠0 then zk2 (yge l) l.length else zk2 (idAt l) l.length
theorem yhz (l:List Evt) (hs:∀ e∈l,SmE e):AC prog 29 [evs l] (I (yku l)):=by
 refine AC.ob func29 ntmps29 results29 (zzi (zyk _)) (zx1 _) fun w S'=>AWp.of_vc [] ?_
 obtain⟨r,hr⟩:∃ r,yku l=r:=⟨_,rfl⟩
 rw[hr]
 unfold yku at hr
 by_cases c0:2000 < l.length
 case pos =>
  have i0:(2000:Int) < l.length:=by omega
  rw[if_pos c0]at hr
  rw[← hr]
  simp[go_sem,i0]
  exact rets
 rw[if_neg c0]at hr
 have i0:¬ (2000:Int) < l.length:=by omega
 simp[go_sem,i0]
 refine AWp.loop_vc [] (fun m s=>∃ q:Nat,q≤l.length∧m=l.length - q∧s.σ 0=evs l∧s.σ 12=evs l∧s.σ 13=I l.length∧s.σ 14=I q∧∀ j,j < q→verAt l j=0) l.length ⟨0,by simp[go_sem]⟩ ?_
 rintro m s ⟨q,hq,rfl,h0,h12,h13,h14,hno⟩
 have hws:IntKind.i64.wrap ((q:Int)+1)=(q:Int)+1:=wrapB (by omega) (by omega)
 by_cases hlt:q < l.length
 · obtain⟨x,hx⟩:∃ x,l[q]=x:=⟨_,rfl⟩
   have hv:verAt l q=yp6 x:=by unfold verAt;rw[← hx];simp[List.getD,hlt]
   simp[go_sem,h0,h12,h13,h14,hlt,hx]
   refine cpu (yp7 x (hs x (hx ▸ List.getElem_mem hlt))) ?_
   by_cases hz:yp6 x=0
   · rw[hz]at hv ⊢
     simp[go_sem,h0,h12,h13,h14,hlt,hws]
     exact⟨l.length - (q+1),by omega,q+1,by omega,rfl,rfl,zet hno hv⟩
   · have hne:¬ verAt l q=0:=by rw[hv];exact hz
     have hh:=zk5 hlt hno hne
     have hz2:(yp6 x != 0)=true:=bne_iff_ne.2 hz
     rw[hh,if_pos hne,hv]at hr
     rw[← hr]
     simp[go_sem,h0,h12,h13,h14,hlt,hz,hz2]
     exact rets
 rw[zk3 fun j hj=>hno j (by omega),if_neg (by simp)]at hr
 simp[go_sem,h0,h12,h13,h14,hlt]
 clear hq h12 h13 h14 hno hws hlt
 refine AWp.loop_vc [] (fun m s=>∃ q:Nat,q≤l.length∧m=l.length - q∧s.σ 0=evs l∧s.σ 24=evs l∧s.σ 25=I l.length∧s.σ 26=I q∧∀ j,j < q→yge l j=0) l.length ⟨0,by simp[go_sem,h0]⟩ ?_
 clear h0 s
 rintro m s ⟨q,hq,rfl,h0,h12,h13,h14,hno⟩
 have hws:IntKind.i64.wrap ((q:Int)+1)=(q:Int)+1:=wrapB (by omega) (by omega)
 by_cases hlt:q < l.length
 · obtain⟨x,hx⟩:∃ x,l[q]=x:=⟨_,rfl⟩
   have hl0:0 < l.length:=by omega
   obtain⟨y,hy⟩:∃ y,l[0]=y:=⟨_,rfl⟩
   have hv:yge l q=if x.room=y.room then 0 else 13:=by unfold yge;rw[← hx,← hy];simp[List.getD,hlt,hl0]
   simp[go_sem,h0,h12,h13,h14,hlt,hx]
   refine da ?_
   by_cases hz:x.room=y.room
   · rw[if_pos hz]at hv
     simp[go_sem,h0,h12,h13,h14,hlt,hl0,hx,hy,hz,hws]
     exact⟨l.length - (q+1),by omega,q+1,by omega,rfl,rfl,zet hno hv⟩
   · rw[if_neg hz]at hv
     have hne:¬ yge l q=0:=by rw[hv];decide
     have hh:=zk5 hlt hno hne
     have g1:(x.room==y.room)=false:=beq_eq_false_iff_ne.2 hz
     rw[hh,if_pos hne,hv]at hr
     rw[← hr]
     simp[go_sem,h0,h12,h13,h14,hlt,hl0,hx,hy,hz,g1]
     exact rets
 rw[zk3 fun j hj=>hno j (by omega),if_neg (by simp)]at hr
 simp[go_sem,h0,h12,h13,h14,hlt]
 clear hq h12 h13 h14 hno hws hlt
 have hbase:∀ j,j < 1→idAt l j=0:=fun j hj=>by unfold idAt;rw[if_neg (by omega)]
 refine AWp.loop_vc [] (fun m s=>∃ q:Nat,1≤q∧q≤l.length+1∧m=l.length+1 - q∧s.σ 0=evs l∧s.σ 8=I q∧∀ j,j < q→idAt l j=0) l.length ⟨1,by simp[go_sem,h0];exact hbase 0 (by omega)⟩ ?_
 clear h0 s
 rintro m s ⟨q,hq1,hq,rfl,h0,h8,hno⟩
 have hws:IntKind.i64.wrap ((q:Int)+1)=(q:Int)+1:=wrapB (by omega) (by omega)
 by_cases hlt:q < l.length
 · obtain⟨x,hx⟩:∃ x,l[q]=x:=⟨_,rfl⟩
   obtain⟨p,hp⟩:∃ p,q=p+1:=⟨q - 1,by omega⟩
   have hpl:p < l.length:=by omega
   obtain⟨y,hy⟩:∃ y,l[p]=y:=⟨_,rfl⟩
   have hw:IntKind.i64.wrap ((q:Int) - 1)=(p:Int):=by rw[wrapB (by omega) (by omega)];omega
   have hv:idAt l q=if x.id≤y.id then 8 else 0:=by
    unfold idAt
    rw[show q - 1=p by omega,show l.getD q evZ=x by rw[← hx];simp[List.getD,hlt],show l.getD p evZ=y by rw[← hy];simp[List.getD,hpl]]
    by_cases hxy:x.id≤y.id
    · rw[if_pos ⟨by omega,hxy⟩,if_pos hxy]
    · rw[if_neg (fun h=>hxy h.2),if_neg hxy]
   simp[go_sem,h0,h8,hlt]
   refine da ?_
   by_cases hz:x.id≤y.id
   · rw[if_pos hz]at hv
     have hne:¬ idAt l q=0:=by rw[hv];decide
     have hh:=zk5 hlt hno hne
     rw[hh,hv]at hr
     rw[← hr]
     simp[go_sem,h0,h8,hlt,hpl,hx,hy,hz,hw]
     exact rets
   · rw[if_neg hz]at hv
     simp[go_sem,h0,h8,hlt,hpl,hx,hy,hz,hw,hws]
     exact⟨l.length+1 - (q+1),by omega,q+1,by omega,by omega,by omega,rfl,zet hno hv⟩
 · rw[zk3 fun j hj=>hno j (by omega)]at hr
   rw[← hr]
   simp[go_sem,h0,h8,hlt]
   exact rets
def zhl (l:List Evt):Option Evt:=l.find? fun e=>e.kind==1
theorem zks {α:Type} {p:α→Bool} {l:List α} (h:∀ (j:Nat) (hj:j < l.length),p l[j]=false):l.find? p=none:=by
 rw[List.find?_eq_none]
 intro x hx
 obtain⟨j,hj,rfl⟩:=List.mem_iff_getElem.1 hx
 simp[h j hj]
theorem zkv {α:Type} {p:α→Bool} {l:List α} {q:Nat} (hq:q < l.length) (hp:p l[q]=true) (h:∀ (j:Nat) (hj:j < l.length),j < q→p l[j]=false):l.find? p=some l[q]:=by
 rw[List.find?_eq_some_iff_getElem]
 exact⟨hp,q,hq,rfl,fun j hj=>by simp[h j (by omega) hj]⟩
theorem zhm (l:List Evt) (hsz:l.length≤1000000000):AC prog 84 [evs l] (optE (zhl l)):=by
 refine AC.ob func84 ntmps84 results84 (zzi (zyk _)) (zxk _) fun w S'=>AWp.of_vc [] ?_
 obtain⟨r,hr⟩:∃ r,zhl l=r:=⟨_,rfl⟩
 rw[hr]
 unfold zhl at hr
 simp[go_sem]
 refine AWp.loop_vc [] (fun m s=>∃ q:Nat,q≤l.length∧m=l.length - q∧s.σ 6=evs l∧s.σ 7=I l.length∧s.σ 8=I q∧s.σ 2=.rptr 2 (s.ver 2) 0 0∧s.h 2=.box evZc∧∀ (j:Nat) (hj:j < l.length),j < q→(l[j].kind==1)=false) l.length ⟨0,by simp[go_sem,evZc]⟩ ?_
 rintro m s ⟨q,hq,rfl,h6,h7,h8,h2,hb2,hno⟩
 have hws:IntKind.i64.wrap ((q:Int)+1)=(q:Int)+1:=wrapB (by omega) (by omega)
 by_cases hlt:q < l.length
 · obtain⟨x,hx⟩:∃ x,l[q]=x:=⟨_,rfl⟩
   by_cases hk:x.kind=1
   · rw[zkv hlt (by rw[hx];simp[hk]) (fun j hj hjq=>hno j hj hjq),hx]at hr
     rw[← hr]
     simp[go_sem,h6,h7,h8,h2,hb2,hlt,hx,hk,evc,evZc]
     refine PostR.ret ?_
     simp[go_sem,h2,evc,evZc]
   · have hk2:(x.kind==1)=false:=beq_eq_false_iff_ne.2 hk
     simp[go_sem,h6,h7,h8,h2,hb2,hlt,hx,hk,hk2,hws]
     refine⟨l.length - (q+1),by omega,q+1,by omega,rfl,rfl,fun j hj hjq=>?_⟩
     rcases Nat.lt_succ_iff_lt_or_eq.1 hjq with h|rfl
     · simpa using hno j hj h
     · rw[hx];exact hk
 · rw[zks fun j hj=>hno j hj (by omega)]at hr
   rw[← hr]
   simp[go_sem,h6,h7,h8,h2,hb2,hlt,evZc]
   refine PostR.retW [] (r0:=.tup [.agg evZc,B false]) (by simp[go_sem,h2,evZc]) ?_
   exact .tup ⟨.one (.agg yrc),.refl _,trivial⟩
def idsE (l:List Evt):List Int:=l.map (·.id)
theorem znv {l:List Evt} {q:Nat} (h:q < l.length):idsE (l.take (q+1))=idsE (l.take q)++[l[q].id]:=by
 unfold idsE
 rw[List.take_succ_eq_append_getElem h,List.map_append];rfl
theorem zw9 (e:Nat) (l:List Evt):PureR (.fresh e 29 (l.map ev)):=by
 intro x hx c hc
 obtain⟨n,_,rfl⟩:=List.mem_map.1 hx
 exact zyi n c hc
def zsz (l:List Evt) (ids:List Int):List Evt:=ids.filterMap (getE l)
theorem zs1 {l:List Evt} {ids:List Int} {q:Nat} (h:q < ids.length):zsz l (ids.take (q+1))=zsz l (ids.take q)++(getE l ids[q]).toList:=by
 unfold zsz
 rw[List.take_succ_eq_append_getElem h,List.filterMap_append]
 cases hg:getE l ids[q]<;>simp[hg]
theorem zs0 (l:List Evt) (ids:List Int):(zsz l ids).length≤ids.length:=List.length_filterMap_le _ _
theorem sof_ac (l:List Evt) (ids:List Int) (hsz:ids.length≤1000000):AC prog 171 [evs l,ints ids] (.fresh 45 29 ((zsz l ids).map ev)):=by
 refine AC.ob func171 ntmps171 results171 (zzj (zyk _) (zyr _)) (zw9 _ _) fun w S'=>AWp.of_vc [12] ?_
 have hol:=zs0 l
 have hm:ids.length≤maxLen:=by unfold maxLen;omega
 simp[go_sem,hm]
 refine⟨by omega,?_⟩
 refine AWp.loop_vc [12] (fun m s=>∃ q:Nat,q≤ids.length∧m=ids.length - q∧s.σ 0=evs l∧s.σ 13=ints ids∧s.σ 14=I ids.length∧s.σ 15=I q∧s.σ 5=.ref 12 (s.ver 12)∧s.h 12=.arr 45 29 ((zsz l (ids.take q)).map ev)) ids.length ⟨0,by simp[go_sem,zsz]⟩ ?_
 rintro m s ⟨q,hq,rfl,h0,h13,h14,h15,h5,hh⟩
 have hws:IntKind.i64.wrap ((q:Int)+1)=(q:Int)+1:=wrapB (by omega) (by omega)
 by_cases hlt:q < ids.length
 · obtain⟨x,hx⟩:∃ x,ids[q]=x:=⟨_,rfl⟩
   have hsu:=zs1 (l:=l) hlt
   have hql:=hol (ids.take q)
   rw[List.length_take]at hql
   rw[hx]at hsu
   simp[go_sem,h0,h13,h14,h15,h5,hh,hlt,hx]
   refine cpu (yi1 l x) ?_
   cases hg:getE l x with
   | none =>
    rw[hg]at hsu
    simp[go_sem,h0,h13,h14,h15,h5,hh,hlt,hws]
    exact⟨ids.length - (q+1),by omega,q+1,by omega,rfl,rfl,by rw[hsu];simp⟩
   | some y =>
    rw[hg]at hsu
    have hbig:(zsz l (ids.take q)).length+1≤maxLen:=by unfold maxLen;omega
    simp[go_sem,h0,h13,h14,h15,h5,hh,hlt,hws]
    refine⟨by omega,ids.length - (q+1),by omega,q+1,by omega,rfl,by omega,?_⟩
    rw[hsu]
    simp
    rfl
 · have htk:ids.take q=ids:=List.take_of_length_le (by omega)
   rw[htk]at hh
   simp[go_sem,h0,h13,h14,h15,h5,hh,hlt]
   refine PostR.ret ?_
   simp[go_sem,h5,hh]
theorem sids_ac (l:List Evt) (hsz:l.length≤1000000000):AC prog 113 [evs l] (.fresh 3 1 ((idsE l).map I)):=by
 refine AC.ob func113 ntmps113 results113 (zzi (zyk _)) (zxd _ _) fun w S'=>AWp.of_vc [8] ?_
 have hm:l.length≤maxLen:=by unfold maxLen;omega
 simp[go_sem,hm]
 refine⟨by omega,?_⟩
 refine AWp.loop_vc [8] (fun m s=>∃ q:Nat,q≤l.length∧m=l.length - q∧s.σ 9=evs l∧s.σ 10=I l.length∧s.σ 11=I q∧s.σ 3=.ref 8 (s.ver 8)∧s.h 8=.arr 3 1 ((idsE (l.take q)).map I)) l.length ⟨0,by simp[go_sem,idsE]⟩ ?_
 rintro m s ⟨q,hq,rfl,h9,h10,h11,h3,hh⟩
 have hws:IntKind.i64.wrap ((q:Int)+1)=(q:Int)+1:=wrapB (by omega) (by omega)
 by_cases hlt:q < l.length
 · obtain⟨x,hx⟩:∃ x,l[q]=x:=⟨_,rfl⟩
   have hsu:=znv hlt
   rw[hx]at hsu
   simp[go_sem,h9,h10,h11,h3,hh,hlt,hx,hws]
   have hil:(idsE (l.take q)).length=q:=by simp[idsE];omega
   refine⟨by omega,l.length - (q+1),by omega,q+1,by omega,rfl,by omega,?_⟩
   rw[hsu]
   simp
   rfl
 · have htk:l.take q=l:=List.take_of_length_le (by omega)
   rw[htk]at hh
   simp[go_sem,h9,h10,h11,h3,hh,hlt]
   refine PostR.ret ?_
   simp[go_sem,h3,hh]
def isMem (u:Bytes) (e:Evt):Bool:=e.kind==2&&e.key==u
def yi4 (l:List Evt) (u:Bytes):Int:=match l.find? (isMem u) with
 | some e=>e.content.n
 | none=>0
theorem yi5 (l:List Evt) (u:Bytes) (hsz:l.length≤1000000000):AC prog 88 [evs l,S u] (I (yi4 l u)):=by
 refine AC.ob func88 ntmps88 results88 (zzj (zyk _) (zx2 _)) (zx1 _) fun w S'=>AWp.of_vc [] ?_
 obtain⟨r,hr⟩:∃ r,yi4 l u=r:=⟨_,rfl⟩
 rw[hr]
 unfold yi4 at hr
 simp[go_sem]
 refine AWp.loop_vc [] (fun m s=>∃ q:Nat,q≤l.length∧m=l.length - q∧s.σ 0=evs l∧s.σ 1=S u∧s.σ 7=I l.length∧s.σ 8=I q∧∀ (j:Nat) (hj:j < l.length),j < q→isMem u l[j]=false) l.length ⟨0,by simp[go_sem]⟩ ?_
 rintro m s ⟨q,hq,rfl,h0,h1,h7,h8,hno⟩
 have hws:IntKind.i64.wrap ((q:Int)+1)=(q:Int)+1:=wrapB (by omega) (by omega)
 by_cases hlt:q < l.length
 · obtain⟨x,hx⟩:∃ x,l[q]=x:=⟨_,rfl⟩
   by_cases hk:x.kind=2
   · by_cases hy:x.key=u
     · rw[zkv hlt (by rw[hx];simp[isMem,hk,hy]) (fun j hj hjq=>hno j hj hjq),hx]at hr
       rw[← hr]
       simp[go_sem,h0,h1,h7,h8,hlt,hx,hk,hy]
       exact rets
     · have hy2:(x.key==u)=false:=beq_eq_false_iff_ne.2 hy
       simp[go_sem,h0,h1,h7,h8,hlt,hx,hk,hy,hy2,hws]
       refine⟨l.length - (q+1),by omega,q+1,by omega,rfl,rfl,fun j hj hjq=>?_⟩
       rcases Nat.lt_succ_iff_lt_or_eq.1 hjq with h|rfl
       · exact hno j hj h
       · rw[hx];simp[isMem,hy]
   · have hk2:(x.kind==2)=false:=beq_eq_false_iff_ne.2 hk
     simp[go_sem,h0,h1,h7,h8,hlt,hx,hk,hk2,hws]
     refine⟨l.length - (q+1),by omega,q+1,by omega,rfl,rfl,fun j hj hjq=>?_⟩
     rcases Nat.lt_succ_iff_lt_or_eq.1 hjq with h|rfl
     · exact hno j hj h
     · rw[hx];simp[isMem,hk]
 · rw[zks fun j hj=>hno j hj (by omega)]at hr
   rw[← hr]
   simp[go_sem,h0,h1,h7,h8,hlt]
   exact rets
def maskM (self:Bool) (t:Int):Int:=if self=true then (if t=0 then 14 else if t=2 then 5 else if t=3 then 15 else 0) else (if t=0 then 30 else if t=1 then 7 else if t=4 then 31 else 0)
def bitM (f:Int):Int:=if f=0 then 1 else if f=1 then 2 else if f=2 then 4 else if f=3 then 8 else 16
def moveB (f t:Int) (self:Bool):Bool:=if f < 0 then false else if 4 < f then false else if t < 0 then false else if 4 < t then false else andI .i64 (maskM self t) (bitM f) != 0
theorem zrz (f t:Int) (self:Bool):AC prog 133 [I f,I t,B self] (B (moveB f t self)):=by
 refine AC.ob func133 ntmps133 results133 (zzk (zx1 _) (zx1 _) (zx0 _)) (zx0 _) fun w S'=>AWp.of_vc [] ?_
 unfold moveB
 by_cases c1:f < 0
 · simp[go_sem,c1]
   exact rets
 by_cases c2:4 < f
 · simp[go_sem,c1,c2]
   exact rets
 by_cases c3:t < 0
 · simp[go_sem,c1,c2,c3]
   exact rets
 by_cases c4:4 < t
 · simp[go_sem,c1,c2,c3,c4]
   exact rets
 have hf:f=0∨f=1∨f=2∨f=3∨f=4:=by omega
 have ht:t=0∨t=1∨t=2∨t=3∨t=4:=by omega
 clear c1 c2 c3 c4
 rcases ht with rfl|rfl|rfl|rfl|rfl
 all_goals
  rcases hf with rfl|rfl|rfl|rfl|rfl
  all_goals
   cases self
   all_goals
    simp[go_sem]
    refine da ?_
    simp[go_sem]
    refine PostR.ret ?_
    simp[go_sem,maskM,bitM]<;>decide +kernel
theorem zy6 (l:List Int):Pure (.agg (l.map I)):=zx3 fun c hc=>by
 obtain⟨n,_,rfl⟩:=List.mem_map.1 hc
 exact zx1 _
def zr7 (v:Levels) (k:Int):Int:=match v.kinds.find? (fun x=>x.kind==k) with
 | some x=>x.n
 | none=>if ykd k=true then v.state else v.message
theorem zr8 (v:Levels) (k:Int) (hsz:v.kinds.length≤1000000000):AC prog 137 [.agg (lvsc v),I k] (I (zr7 v k)):=by
 refine AC.ob func137 ntmps137 results137 (zzj (zy0 _) (zx1 _)) (zx1 _) fun w S'=>AWp.of_vc [] ?_
 obtain⟨r,hr⟩:∃ r,zr7 v k=r:=⟨_,rfl⟩
 rw[hr]
 unfold zr7 at hr
 obtain⟨us,ks,n1,n2,n3,n4,n5,n6,n7⟩:=v
 simp only at hr hsz
 simp[go_sem,lvsc]
 refine AWp.loop_vc [] (fun m s=>∃ q:Nat,q≤ks.length∧m=ks.length - q∧s.σ 1=I k∧s.σ 2=.eptr (lvsc ⟨us,ks,n1,n2,n3,n4,n5,n6,n7⟩) 0∧s.σ 8=.lst 2 (ks.map fun u=>.agg (klc u))∧s.σ 9=I ks.length∧s.σ 10=I q∧∀ (j:Nat) (hj:j < ks.length),j < q→(ks[j].kind==k)=false) ks.length ⟨0,by simp[go_sem,lvsc]⟩ ?_
 rintro m s ⟨q,hq,rfl,h1,h2,h8,h9,h10,hno⟩
 have hws:IntKind.i64.wrap ((q:Int)+1)=(q:Int)+1:=wrapB (by omega) (by omega)
 by_cases hlt:q < ks.length
 · obtain⟨x,hx⟩:∃ x,ks[q]=x:=⟨_,rfl⟩
   by_cases hk:x.kind=k
   · rw[zkv hlt (by rw[hx];simp[hk]) (fun j hj hjq=>hno j hj hjq),hx]at hr
     rw[← hr]
     simp[go_sem,h1,h2,h8,h9,h10,hlt,hx,hk,klc,lvsc]
     exact rets
   · have hk2:(x.kind==k)=false:=beq_eq_false_iff_ne.2 hk
     simp[go_sem,h1,h2,h8,h9,h10,hlt,hx,hk,hk2,klc,lvsc,hws]
     refine⟨ks.length - (q+1),by omega,q+1,by omega,rfl,by omega,fun j hj hjq=>?_⟩
     rcases Nat.lt_succ_iff_lt_or_eq.1 hjq with h|rfl
     · simpa using hno j hj h
     · rw[hx];exact hk
 · rw[zks fun j hj=>hno j hj (by omega)]at hr
   simp only at hr
   simp[go_sem,h1,h2,h8,h9,h10,hlt,lvsc]
   refine cpu (ykg k) ?_
   cases hs:ykd k with
   | true =>
    rw[if_pos hs]at hr
    rw[← hr]
    simp[go_sem,h2,lvsc]
    exact rets
   | false =>
    rw[if_neg (by rw[hs];decide)]at hr
    rw[← hr]
    simp[go_sem,h2,lvsc]
    exact rets
theorem zsy (v:Levels):AC prog 207 [.agg (lvsc v)] (.agg ((zqw v).map I)):=by
 refine AC.ob func207 ntmps207 results207 (zzi (zy0 _)) (zy6 _) fun w S'=>AWp.of_vc [] ?_
 obtain⟨us,ks,n1,n2,n3,n4,n5,n6,n7⟩:=v
 simp[go_sem,lvsc]
 refine PostR.ret ?_
 simp[go_sem,zqw]
def barB (own was is:Int):Bool:=was != is&&(decide (own < was)||decide (own < is))
theorem zea (own was is:Int):AC prog 206 [I was,I is,.eptr [I own] 0] (B (barB own was is)):=by
 refine AC.ob func206 ntmps206 results206 (zzk (zx1 _) (zx1 _) (zyf fun c h=>by simp only[List.mem_singleton]at h;subst h;exact zx1 _)) (zx0 _) fun w S'=>AWp.of_vc [] ?_
 unfold barB
 by_cases c1:was=is
 · simp[go_sem,c1]
   exact rets
 have g1:(was==is)=false:=beq_eq_false_iff_ne.2 c1
 have g2:(was != is)=true:=bne_iff_ne.2 c1
 by_cases c2:own < was
 · simp[go_sem,c1,g1,g2,c2]
   exact rets
 by_cases c3:own < is
 · simp[go_sem,c1,g1,g2,c2,c3]
   exact rets
 simp[go_sem,c1,g1,g2,c2,c3]
 exact rets
end Go.Proofs.YthjmjdleecmaeaaGreat
