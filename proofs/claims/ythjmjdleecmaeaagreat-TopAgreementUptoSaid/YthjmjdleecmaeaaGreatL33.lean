/- Several texts of the proof in one: B21, B22, B23, B24, B25. No condition. -/
import Derived.Test.YthjmjdleecmaeaaGreatL32
set_option linter.unusedSimpArgs false
set_option linter.unusedVariables false
set_option maxHeartbeats 4000000
set_option maxRecDepth 8000
namespace Go.Proofs.YthjmjdleecmaeaaGreat
open Go Go.Abs Go.Proofs.Tryz
def memD (e:Evt) (l:List Evt):Option Int :=
 if e.key=e.sender then
  if yi4 l e.key=4 then some 19 else if moveB (yi4 l e.key) e.content.n true=false then some 18 else some (ownI e.content.n (yi4 l e.key) l)
 else if moveB (yi4 l e.key) e.content.n false=false then some 18 else if yi4 l e.sender≠3 then some 18 else
 if e.content.n=1 then (if (lvOf l).invite≤ypo (lvOf l) e.sender then none else some 20) else
 if e.content.n=0 then
  (if yi4 l e.key=4∧ypo (lvOf l) e.sender < (lvOf l).ban then some 20 else
   if (lvOf l).kick≤ypo (lvOf l) e.sender∧ypo (lvOf l) e.key < ypo (lvOf l) e.sender then none else some 20) else
 if e.content.n=4 then
  (if (lvOf l).ban≤ypo (lvOf l) e.sender∧ypo (lvOf l) e.key < ypo (lvOf l) e.sender then none else some 20) else none
theorem mem1_dc (e:Evt) (l:List Evt) (hl:AuthOk l):DC 132 [.eptr (evc e) 0,.eptr [evs l] 0] (memD e l):=by
 refine DC.of_body func132 rfl rfl ntmps132 (congrArg Array.toList results132) (by simp) (zzj (zyf (zyi e)) (zyf fun c h=>by simp only[List.mem_singleton]at h;subst h;exact zyk _)) fun w S'=>AWp.scope_vc [1000002,1000003,1000005,1000006,1000011,1000013,1000014,1000016] ?_
 have hu:=zqy hl.md
 have hlen:=hl.len
 obtain⟨r,hr⟩:∃ r,memD e l=r:=⟨_,rfl⟩
 rw[hr]
 unfold memD at hr
 simp[go_sem]
 refine da ?_
 simp[go_sem]
 refine CalmThen.pure (yi5 l e.key (by omega)) rfl ?_
 obtain⟨nw,hnw⟩:∃ nw,yi4 l e.key=nw:=⟨_,rfl⟩
 obtain⟨k,hk⟩:∃ k,e.key=k:=⟨_,rfl⟩
 rw[hnw,hk]at hr
 rw[hnw]
 by_cases hs:k=e.sender
 · rw[if_pos hs]at hr
   simp[go_sem,hk,hs]
   by_cases c1:nw=4
   · rw[if_pos c1]at hr
     rw[← hr]
     refine AWp.regionPan [] 6 (vd 19) rfl ?_
     simp[go_sem,c1,zan,zap]
     exact⟨zr6 19,rfl⟩
   have g1:(nw==4)=false:=beq_eq_false_iff_ne.2 c1
   have g1':(nw != 4)=true:=bne_iff_ne.2 c1
   rw[if_neg c1]at hr
   refine AWp.region [] ?_
   simp[go_sem,c1,g1,g1']
   refine cpu (zr5 19) ?_
   simp[go_sem]
   cases hm:moveB nw e.content.n true with
   | false =>
    rw[if_pos hm]at hr
    rw[← hr]
    refine AWp.regionPan [] 4 (vd 18) rfl ?_
    simp[go_sem]
    refine cpu (zrz nw e.content.n true) ?_
    rw[hm]
    simp[go_sem,zan,zap]
    exact⟨zr6 18,rfl⟩
   | true =>
    rw[if_neg (by rw[hm];decide)]at hr
    refine AWp.region [] ?_
    simp[go_sem]
    refine cpu (zrz nw e.content.n true) ?_
    rw[hm]
    simp[go_sem]
    refine cpu (zr5 18) ?_
    simp[go_sem]
    rw[← hr]
    refine AWp.regionPan [] 4 (vd (ownI e.content.n nw l)) rfl ?_
    simp[go_sem]
    refine cpu (own_ac e.content.n nw l hl) ?_
    simp[go_sem,zan,zap]
    exact⟨zhw _,rfl⟩
 have g0:(k==e.sender)=false:=beq_eq_false_iff_ne.2 hs
 rw[if_neg hs]at hr
 simp[go_sem,hk,hs,g0]
 refine AWp.region [] ?_
 simp[go_sem]
 refine cpu (zr5 19) ?_
 simp[go_sem]
 cases hm:moveB nw e.content.n false with
 | false =>
  rw[if_pos hm]at hr
  rw[← hr]
  refine AWp.regionPan [] 4 (vd 18) rfl ?_
  simp[go_sem]
  refine cpu (zrz nw e.content.n false) ?_
  rw[hm]
  simp[go_sem,zan,zap]
  exact⟨zr6 18,rfl⟩
 | true =>
 rw[if_neg (by rw[hm];decide)]at hr
 refine AWp.region [] ?_
 simp[go_sem]
 refine cpu (zrz nw e.content.n false) ?_
 rw[hm]
 simp[go_sem]
 refine cpu (zr5 18) ?_
 simp[go_sem]
 by_cases c2:yi4 l e.sender=3
 case neg =>
  have g2:(yi4 l e.sender==3)=false:=beq_eq_false_iff_ne.2 c2
  rw[if_pos c2]at hr
  rw[← hr]
  refine AWp.regionPan [] 5 (vd 18) rfl ?_
  simp[go_sem]
  refine cpu (yi5 l e.sender (by omega)) ?_
  simp[go_sem,c2,g2,zan,zap]
  exact⟨zr6 18,rfl⟩
 rw[if_neg (not_not_intro c2)]at hr
 refine AWp.region [] ?_
 simp[go_sem]
 refine cpu (yi5 l e.sender (by omega)) ?_
 simp[go_sem,c2]
 refine cpu (zr5 18) ?_
 simp[go_sem]
 refine cpu (zq0 l hl.md) ?_
 unfold lvT
 generalize lvOf l=v at hu hr ⊢
 simp[go_sem]
 refine cpu (ypp v e.sender (by omega)) ?_
 obtain⟨lev,hlev⟩:∃ lev,ypo v e.sender=lev:=⟨_,rfl⟩
 rw[hlev]at hr ⊢
 by_cases m1:e.content.n=1
 · rw[if_pos m1]at hr
   simp[go_sem,m1]
   by_cases c3:v.invite≤lev
   · rw[if_pos c3]at hr
     rw[← hr]
     refine AWp.region [] ?_
     simp[go_sem,c3]
     refine cpu (zr5 20) ?_
     simp[go_sem,zam]
     refine PostR.normal ?_
     simp[go_sem]
   · rw[if_neg c3]at hr
     rw[← hr]
     refine AWp.regionPan [] 4 (vd 20) rfl ?_
     simp[go_sem,c3,zan,zap]
     exact⟨zr6 20,rfl⟩
 rw[if_neg m1]at hr
 by_cases m0:e.content.n=0
 · rw[if_pos m0]at hr
   simp[go_sem,m1,m0]
   by_cases c4:nw=4
   · by_cases c5:lev < v.ban
     · have c5':¬ v.ban≤lev:=by omega
       rw[if_pos ⟨c4,c5⟩]at hr
       rw[← hr]
       refine AWp.regionPan [] 8 (vd 20) rfl ?_
       simp[go_sem,c4,c5',zan,zap]
       exact⟨zr6 20,rfl⟩
     · have c5':v.ban≤lev:=by omega
       rw[if_neg (fun h=>c5 h.2)]at hr
       refine AWp.region [] ?_
       simp[go_sem,c4,c5']
       refine cpu (zr5 20) ?_
       simp[go_sem]
       by_cases c6:v.kick≤lev
       · by_cases c7:ypo v k < lev
         · rw[if_pos ⟨c6,c7⟩]at hr
           rw[← hr]
           refine AWp.region [] ?_
           simp[go_sem,c6]
           refine cpu (ypp v k (by omega)) ?_
           simp[go_sem,c7]
           refine cpu (zr5 20) ?_
           simp[go_sem,zam]
           refine PostR.normal ?_
           simp[go_sem]
         · rw[if_neg (fun h=>c7 h.2)]at hr
           rw[← hr]
           refine AWp.regionPan [] 11 (vd 20) rfl ?_
           simp[go_sem,c6]
           refine cpu (ypp v k (by omega)) ?_
           simp[go_sem,c7,zan,zap]
           exact⟨zr6 20,rfl⟩
       · rw[if_neg (fun h=>c6 h.1)]at hr
         rw[← hr]
         refine AWp.regionPan [] 11 (vd 20) rfl ?_
         simp[go_sem,c6,zan,zap]
         exact⟨zr6 20,rfl⟩
   · have g4:(nw==4)=false:=beq_eq_false_iff_ne.2 c4
     have g4':(nw != 4)=true:=bne_iff_ne.2 c4
     rw[if_neg (fun h=>c4 h.1)]at hr
     refine AWp.region [] ?_
     simp[go_sem,c4,g4,g4']
     refine cpu (zr5 20) ?_
     simp[go_sem]
     by_cases c6:v.kick≤lev
     · by_cases c7:ypo v k < lev
       · rw[if_pos ⟨c6,c7⟩]at hr
         rw[← hr]
         refine AWp.region [] ?_
         simp[go_sem,c6]
         refine cpu (ypp v k (by omega)) ?_
         simp[go_sem,c7]
         refine cpu (zr5 20) ?_
         simp[go_sem,zam]
         refine PostR.normal ?_
         simp[go_sem]
       · rw[if_neg (fun h=>c7 h.2)]at hr
         rw[← hr]
         refine AWp.regionPan [] 11 (vd 20) rfl ?_
         simp[go_sem,c6]
         refine cpu (ypp v k (by omega)) ?_
         simp[go_sem,c7,zan,zap]
         exact⟨zr6 20,rfl⟩
     · rw[if_neg (fun h=>c6 h.1)]at hr
       rw[← hr]
       refine AWp.regionPan [] 11 (vd 20) rfl ?_
       simp[go_sem,c6,zan,zap]
       exact⟨zr6 20,rfl⟩
 rw[if_neg m0]at hr
 by_cases m4:e.content.n=4
 · rw[if_pos m4]at hr
   simp[go_sem,m1,m0,m4]
   by_cases c6:v.ban≤lev
   · by_cases c7:ypo v k < lev
     · rw[if_pos ⟨c6,c7⟩]at hr
       rw[← hr]
       refine AWp.region [] ?_
       simp[go_sem,c6]
       refine cpu (ypp v k (by omega)) ?_
       simp[go_sem,c7]
       refine cpu (zr5 20) ?_
       simp[go_sem,zam]
       refine PostR.normal ?_
       simp[go_sem]
     · rw[if_neg (fun h=>c7 h.2)]at hr
       rw[← hr]
       refine AWp.regionPan [] 11 (vd 20) rfl ?_
       simp[go_sem,c6]
       refine cpu (ypp v k (by omega)) ?_
       simp[go_sem,c7,zan,zap]
       exact⟨zr6 20,rfl⟩
   · rw[if_neg (fun h=>c6 h.1)]at hr
     rw[← hr]
     refine AWp.regionPan [] 11 (vd 20) rfl ?_
     simp[go_sem,c6,zan,zap]
     exact⟨zr6 20,rfl⟩
 · rw[if_neg m4]at hr
   rw[← hr]
   simp[go_sem,m1,m0,m4,zam]
   refine PostR.normal ?_
   simp[go_sem]
def zrh (e:Evt) (l:List Evt):Int:=if zky e l=true then 0 else (memD e l).getD 0
theorem zy3 (f:FuncId) (a b:AV) (ha:Pure a) (hb:Pure b):Pure (.fn (.func f) [] [a,b]):=zym (fun c h=>by cases h) (zzj ha hb)
theorem zyj (e:Evt):Pure (.eptr (evc e) 0):=zyf (zyi e)
theorem zyl (l:List Evt):Pure (.eptr [evs l] 0):=zyf fun c h=>by simp only[List.mem_singleton]at h;subst h;exact zyk _
theorem zrg (e:Evt) (l:List Evt) (hl:AuthOk l):AC prog 87 [ev e,evs l] (I (zrh e l)):=by
 refine AC.ob func87 ntmps87 results87 (zzj (zyh _) (zyk _)) (zx1 _) fun w S'=>AWp.of_vc [] ?_
 unfold zrh
 simp[go_sem]
 refine cpu (zkx e l hl) ?_
 cases hf:zky e l with
 | true =>
  simp[go_sem]
  exact rets
 | false =>
  simp[go_sem]
  refine cpu (zhz (first:=[]) (zy3 132 _ _ (zyj e) (zyl l)) (mem1_dc e l hl)) ?_
  simp[go_sem]
  exact rets
def zcl (e:Evt) (l:List Evt):Option Int :=
 if e.kind=1 then (if zhl l=none∧srvOf e.sender=srvOf e.room then some 0 else some 17) else
 if zhl l=none then some 17 else
 if e.kind=2 then some (zrh e l) else if yi4 l e.sender≠3 then some 18 else some (zqk e l)
theorem all1_dc (e:Evt) (l:List Evt) (hl:AuthOk l) (he:SmE e) (hm:Mod e):DC 83 [.eptr [evs l] 0,.eptr (evc e) 0] (zcl e l):=by
 refine DC.of_body func83 rfl rfl ntmps83 (congrArg Array.toList results83) (by simp) (zzj (zyl l) (zyj e)) fun w S'=>AWp.of_vc [1000003,1000004,1000006,1000007,1000008] ?_
 have hlen:=hl.len
 obtain⟨n1,n2,n3,n4,n5⟩:=he.names
 obtain⟨r,hr⟩:∃ r,zcl e l=r:=⟨_,rfl⟩
 rw[hr]
 unfold zcl at hr
 simp[go_sem]
 refine cpu (zhm l (by omega)) ?_
 by_cases k1:e.kind=1
 · rw[if_pos k1]at hr
   cases hc:zhl l with
   | some c =>
    rw[if_neg (fun h=>by rw[hc]at h;exact absurd h.1 (by simp))]at hr
    rw[← hr]
    simp[go_sem,k1]
    refine AWp.drawPan [] 0 (vd 17) (n:=11) rfl (by kernel_rfl) rfl ?_
    simp[go_sem,k1,zan,zap]
    exact zr6 17
   | none =>
    by_cases c2:srvOf e.sender=srvOf e.room
    · rw[if_pos ⟨hc,c2⟩]at hr
      rw[← hr]
      simp[go_sem,k1]
      refine AWp.draw (n:=11) [] rfl (by kernel_rfl) ?_
      simp[go_sem,k1]
      refine CalmThen.pure (yj6 e.sender n2) rfl ?_
      simp[go_sem,k1]
      refine CalmThen.pure (yj6 e.room n1) rfl ?_
      simp[go_sem,k1,c2]
      refine cpu (zr5 17) ?_
      simp[go_sem]
      refine AWp.regionPan [] 0 (vd 0) rfl ?_
      simp[go_sem,zan,zap]
      exact zhw 0
    · have g2:(srvOf e.sender==srvOf e.room)=false:=beq_eq_false_iff_ne.2 c2
      rw[if_neg (fun h=>c2 h.2)]at hr
      rw[← hr]
      simp[go_sem,k1]
      refine AWp.drawPan [] 0 (vd 17) (n:=11) rfl (by kernel_rfl) rfl ?_
      simp[go_sem,k1]
      refine CalmThen.pure (yj6 e.sender n2) rfl ?_
      simp[go_sem,k1]
      refine CalmThen.pure (yj6 e.room n1) rfl ?_
      simp[go_sem,k1,c2,g2,zan,zap]
      exact zr6 17
 rw[if_neg k1]at hr
 have gk1:(e.kind==1)=false:=beq_eq_false_iff_ne.2 k1
 cases hc:zhl l with
 | none =>
  rw[if_pos hc]at hr
  rw[← hr]
  simp[go_sem,k1,gk1]
  refine AWp.regionPan [] 1 (vd 17) rfl ?_
  simp[go_sem,zan,zap]
  exact zr6 17
 | some c =>
 rw[if_neg (by rw[hc];simp)]at hr
 simp[go_sem,k1,gk1]
 refine AWp.region [] ?_
 simp[go_sem]
 refine cpu (zr5 17) ?_
 simp[go_sem]
 by_cases k2:e.kind=2
 · rw[if_pos k2]at hr
   rw[← hr]
   simp[go_sem,k2]
   refine AWp.regionPan [] 3 (vd (zrh e l)) rfl ?_
   simp[go_sem]
   refine cpu (zrg e l hl) ?_
   simp[go_sem,zan,zap]
   exact zhw _
 rw[if_neg k2]at hr
 have gk2:(e.kind==2)=false:=beq_eq_false_iff_ne.2 k2
 simp[go_sem,k2,gk2]
 by_cases c3:yi4 l e.sender=3
 case neg =>
  have g3:(yi4 l e.sender==3)=false:=beq_eq_false_iff_ne.2 c3
  rw[if_pos c3]at hr
  rw[← hr]
  refine AWp.regionPan [] 5 (vd 18) rfl ?_
  simp[go_sem]
  refine cpu (yi5 l e.sender (by omega)) ?_
  simp[go_sem,c3,g3,zan,zap]
  exact zr6 18
 rw[if_neg (not_not_intro c3)]at hr
 rw[← hr]
 refine AWp.region [] ?_
 simp[go_sem]
 refine cpu (yi5 l e.sender (by omega)) ?_
 simp[go_sem,c3]
 refine cpu (zr5 18) ?_
 simp[go_sem]
 refine AWp.regionPan [] 3 (vd (zqk e l)) rfl ?_
 simp[go_sem]
 refine cpu (level_ac e l hl hm) ?_
 simp[go_sem,zan,zap]
 exact zhw _
def zcp (e:Evt) (l:List Evt):Int:=(zcl e l).getD 0
theorem zcq (e:Evt) (l:List Evt) (hl:AuthOk l) (he:SmE e) (hm:Mod e):AC prog 50 [ev e,evs l] (I (zcp e l)):=by
 refine AC.ob func50 ntmps50 results50 (zzj (zyh _) (zyk _)) (zx1 _) fun w S'=>AWp.of_vc [] ?_
 unfold zcp
 simp[go_sem]
 refine cpu (zhz (first:=[]) (zy3 83 _ _ (zyl l) (zyj e)) (all1_dc e l hl he hm)) ?_
 simp[go_sem]
 exact rets
structure Good (l:List Evt):Prop where
 ok:AuthOk l
 fit:Fit l
theorem own1_ac (e:Evt) (k:EntD):AC prog 282 [ev e,.eptr (enc k) 0] (B (zlc e k)):=by
 refine AC.ob func282 ntmps282 results282 (zzj (zyh _) (zx6 _)) (zx0 _) fun w S'=>AWp.of_vc [] ?_
 unfold zlc
 by_cases c1:e.kind=k.kind
 · by_cases c2:e.key=k.key
   · simp[go_sem,c1,c2,enc]
     exact rets
   · have g2:(e.key==k.key)=false:=beq_eq_false_iff_ne.2 c2
     simp[go_sem,c1,c2,g2,enc]
     exact rets
 · have g1:(e.kind==k.kind)=false:=beq_eq_false_iff_ne.2 c1
   simp[go_sem,c1,g1,enc]
   exact rets
def findK (A:List Evt) (k:EntD):Option Evt:=A.find? fun x=>zlc x k
theorem ownK_ac (A:List Evt) (k:EntD):AC prog 281 [evs A,ent k] (optE (findK A k)):=by
 refine AC.ob func281 ntmps281 results281 (zzj (zyk _) (zyd _)) (zxk _) fun w S'=>AWp.of_vc [] ?_
 simp[go_sem]
 refine cpu (zof 282 [.eptr (enc k) 0] (fun e=>zlc e k) (fun e=>own1_ac e k) (fun c h=>by simp only[List.mem_singleton]at h;subst h;exact zx6 _) A) ?_
 rcases zn3 (fun e:Evt=>zlc e k) A with ⟨hf,hi⟩|⟨j,hj,hf,hi⟩
 · simp[go_sem,hi]
   refine PostR.retW [] (r0:=.tup [.agg evZc,B false]) (by simp[go_sem,evZc]) ?_
   have:findK A k=none:=hf
   rw[this]
   exact .tup ⟨.one (.agg yrc),.refl _,trivial⟩
 · have hneg:¬ ((j:Int) < 0):=by omega
   simp[go_sem,hi,hneg,hj,evc]
   refine PostR.ret ?_
   have:findK A k=some A[j]:=hf
   simp[go_sem,this,evc]
def baseK (l:List Evt) (s:List EntD) (A:List Evt) (k:EntD):Option Evt:=match getOf s k.kind k.key with
 | some id=>getE l id
 | none=>findK A k
def zef (l:List Evt) (s:List EntD) (A:List Evt) (K:List EntD):List Evt:=K.filterMap (baseK l s A)
def zeb (l:List Evt) (s:List EntD) (e:Evt):List Evt:=zef l s (zsz l e.auth) (zpj e)
theorem zeg {l:List Evt} {s:List EntD} {A:List Evt} {K:List EntD} {q:Nat} (h:q < K.length):zef l s A (K.take (q+1))=zef l s A (K.take q)++(baseK l s A K[q]).toList:=by
 unfold zef
 rw[List.take_succ_eq_append_getElem h,List.filterMap_append]
 cases hg:baseK l s A K[q]<;>simp[hg]
theorem base_ac (l:List Evt) (s:List EntD) (e:Evt) (hl:Good l) (ha:e.auth.length≤40):AC prog 279 [evs l,ents s,ev e] (evs (zeb l s e)):=by
 refine AC.ob func279 ntmps279 results279 (zzk (zyk _) (zye _) (zyh _)) (zyk _) fun w S'=>AWp.of_vc [19] ?_
 have hkl:=zpk e
 unfold zeb
 obtain⟨K,hK⟩:∃ K,zpj e=K:=⟨_,rfl⟩
 have hkac:=zpm e
 rw[hK]at hkl hkac ⊢
 simp[go_sem]
 refine cpu (sof_ac l e.auth (by omega)) ?_
 simp[go_sem]
 refine CallSem.freeze 18 ?_
 refine cpu hkac ?_
 simp[go_sem]
 generalize zsz l e.auth=A
 refine AWp.loop_vc [19] (fun m s1=>∃ q:Nat,q≤K.length∧m=K.length - q∧s1.σ 0=evs l∧s1.σ 1=ents s∧s1.σ 7=evs A∧s1.σ 21=ents K∧s1.σ 22=I K.length∧s1.σ 23=I q∧s1.σ 8=.ref 19 (s1.ver 19)∧s1.h 19=.arr 45 29 ((zef l s A (K.take q)).map ev)) K.length ⟨0,by simp[go_sem,zef]⟩ ?_
 rintro m s1 ⟨q,hq,rfl,h0,h1,h7,h21,h22,h23,h8,hh⟩
 have hws:IntKind.i64.wrap ((q:Int)+1)=(q:Int)+1:=wrapB (by omega) (by omega)
 by_cases hlt:q < K.length
 · obtain⟨k,hk⟩:∃ k,K[q]=k:=⟨_,rfl⟩
   have hsu:=zeg (l:=l) (s:=s) (A:=A) hlt
   rw[hk]at hsu
   have hbl:(zef l s A (K.take q)).length≤K.length:=Nat.le_trans (List.length_filterMap_le _ _) (by rw[List.length_take];omega)
   simp[go_sem,h0,h1,h7,h21,h22,h23,h8,hh,hlt,hk]
   refine cpu (ownK_ac A k) ?_
   simp[go_sem,h0,h1,h7,h21,h22,h23,h8,hh,hlt,hk,enc]
   refine cpu (zmy s k.kind k.key) ?_
   unfold optAV
   unfold baseK at hsu
   cases hg:getOf s k.kind k.key with
   | some id =>
    rw[hg]at hsu
    simp[go_sem,h0,h1,h7,h21,h22,h23,h8,hh,hlt,hk,enc]
    refine cpu (yi1 l id) ?_
    cases hge:getE l id with
    | none =>
     simp[hge]at hsu
     simp[go_sem,h0,h1,h7,h21,h22,h23,h8,hh,hlt,hk,hws]
     refine⟨K.length - (q+1),by omega,q+1,by omega,rfl,by omega,?_⟩
     rw[hsu]
    | some y =>
     simp[hge]at hsu
     simp[go_sem,h0,h1,h7,h21,h22,h23,h8,hh,hlt,hk,hws,evc]
     refine⟨by omega,K.length - (q+1),by omega,q+1,by omega,rfl,by omega,?_⟩
     rw[hsu]
     simp
     rfl
   | none =>
    rw[hg]at hsu
    cases hge:findK A k with
    | none =>
     simp[hge]at hsu
     simp[go_sem,h0,h1,h7,h21,h22,h23,h8,hh,hlt,hk,hws]
     refine⟨K.length - (q+1),by omega,q+1,by omega,rfl,by omega,?_⟩
     rw[hsu]
    | some y =>
     simp[hge]at hsu
     simp[go_sem,h0,h1,h7,h21,h22,h23,h8,hh,hlt,hk,hws,evc]
     refine⟨by omega,K.length - (q+1),by omega,q+1,by omega,rfl,by omega,?_⟩
     rw[hsu]
     simp
     rfl
 · have htk:K.take q=K:=List.take_of_length_le (by omega)
   rw[htk]at hh
   simp[go_sem,h0,h1,h7,h21,h22,h23,h8,hh,hlt]
   refine PostR.retW [19] (r0:=evs (zef l s A K)) (by simp[go_sem,h8,hh]) (.refl _)
theorem zed {l:List Evt} {s:List EntD} {e x:Evt} (h:x∈zeb l s e):x∈l:=by
 unfold zeb zef at h
 obtain⟨k,_,hk⟩:=List.mem_filterMap.1 h
 unfold baseK at hk
 split at hk
 · exact List.mem_of_find?_eq_some hk
 · have h2:=List.mem_of_find?_eq_some hk
   obtain⟨n,_,hn⟩:=List.mem_filterMap.1 h2
   exact List.mem_of_find?_eq_some hn
theorem zec (l:List Evt) (s:List EntD) (e:Evt):(zeb l s e).length≤5:=Nat.le_trans (List.length_filterMap_le _ _) (zpk e)
theorem zee {l:List Evt} (hl:Good l) (s:List EntD) (e:Evt):AuthOk (zeb l s e) :=
 ⟨fun x hx=>hl.ok.sm x (zed hx),fun x hx=>hl.ok.md x (zed hx),by have:=zec l s e;omega⟩
def sk:Value:=.iface 301 (.agg #[])
theorem yi8:∃ t b,sk=.iface t b:=⟨_,_,rfl⟩
theorem zhc:tConc prog 301=true:=by kernel_rfl
def PostS (rvs:List ResultVar):Option (List EntD)→Exit→St→Prop
 | some s=>PostR prog rvs (ents s)
 | none=>PostP sk
theorem zas (rvs:List ResultVar) (s:List EntD):PostS rvs (some s)=PostR prog rvs (ents s):=rfl
theorem zar (rvs:List ResultVar):PostS rvs none=PostP sk:=rfl
def SC (f:FuncId) (args:List AV):Option (List EntD)→Prop
 | some s=>AC prog f args (ents s)
 | none=>PC prog f args sk
theorem SC.of_body {f:FuncId} {fn:Func} {c:Code} {args:List AV} {o:Option (List EntD)} {n:Nat} {rvs:List ResultVar} (hf:prog.funcs[f]? = some fn) (hb:fn.body=some c) (hname:(fn.name == "runtime.NumGoroutine")=false) (hnt:fn.ntmps=n) (hrv:fn.results.toList=rvs) (hn:args.length≤n)
 (hargs:∀ p∈args,Pure p) (h:∀ (w:World) (S:Nat→Prop),AWp ⟨prog,w,S,n,none,fun d=>d,none⟩ c (PostS rvs o) (ykc args)):SC f args o:=by
 cases o with
 | some s=>exact AC.of_body hf hb hname hnt hrv hn hargs (zw3 s) h
 | none=>exact PC.of_body hf hb hname hnt hn hargs h
def setD (l:List Evt) (s:List EntD) (id:Int):Option (List EntD):=match getE l id with
 | none=>none
 | some e=>if ykd e.kind=false then none else if zcp e (zeb l s e)≠0 then none else some (setOf s e.kind e.key e.id)
theorem setD_sc (l:List Evt) (s:List EntD) (id:Int) (hl:Good l) (hsz:s.length≤100000):SC 273 [evs l,ents s,I id] (setD l s id):=by
 refine SC.of_body func273 rfl rfl ntmps273 (congrArg Array.toList results273) (by simp) (zzk (zyk _) (zye _) (zx1 _)) fun w S'=>AWp.of_vc [1000003] ?_
 obtain⟨r,hr⟩:∃ r,setD l s id=r:=⟨_,rfl⟩
 rw[hr]
 unfold setD at hr
 simp[go_sem]
 refine cpu (yi1 l id) ?_
 cases hg:getE l id with
 | none =>
  rw[hg]at hr
  simp only at hr
  rw[← hr]
  simp[go_sem]
  refine da ?_
  simp[go_sem]
  refine AWp.regionPan [] 2 sk rfl ?_
  simp[go_sem,zhc,zar,zap]
  exact⟨yi8,zv3 zv1⟩
 | some e =>
  rw[hg]at hr
  simp only at hr
  have he:e∈l:=List.mem_of_find?_eq_some hg
  simp[go_sem]
  refine da ?_
  simp[go_sem]
  refine CalmThen.pure (ykg e.kind) rfl ?_
  cases hs:ykd e.kind with
  | false =>
   rw[if_pos hs]at hr
   rw[← hr]
   simp[go_sem]
   refine AWp.regionPan [] 2 sk rfl ?_
   simp[go_sem,zhc,zar,zap]
   exact⟨yi8,zv3 zv1⟩
  | true =>
   rw[if_neg (by rw[hs];decide)]at hr
   simp[go_sem]
   refine CalmThen.pure (base_ac l s e hl (hl.fit.auth e he)) rfl ?_
   simp[go_sem]
   refine CalmThen.pure (zcq e (zeb l s e) (zee hl s e) (hl.ok.sm e he) (hl.ok.md e he)) rfl ?_
   obtain⟨v,hv⟩:∃ v,zcp e (zeb l s e)=v:=⟨_,rfl⟩
   rw[hv]at hr ⊢
   by_cases c1:v=0
   · rw[if_neg (not_not_intro c1)]at hr
     rw[← hr]
     simp[go_sem,c1]
     refine cpu (yin s e.kind e.key e.id hsz) ?_
     simp[go_sem,zas]
     exact rets
   · have g1:(v != 0)=true:=bne_iff_ne.2 c1
     rw[if_pos c1]at hr
     rw[← hr]
     simp[go_sem,c1,g1]
     refine AWp.regionPan [] 2 sk rfl ?_
     simp[go_sem,zhc,zar,zap]
     exact⟨yi8,zv3 zv1⟩
section
open Go.RowKit Go.Proofs.Tryz
theorem yj7 (p q:Addr) (vb ub:Option Addr) (vn vc un uc:Nat) (older:List PanicEntry) (w:World) (hp:∀ o,(w.alloc o).cell? p=some (.slice vb vn vc)) (hc:∀ o,(w.alloc o).cell? q=some (.slice ub un uc)) (hz:∀ o,(w.alloc o).frozen? q=false) :
 CallsD prog 272 #[.pointer (some p),.pointer (some q)] (.panicking ({ v:=sk,recovered:=false }::older)) w fun e u' w' =>
  e=.returned (.tuple #[])∧u'=.panicking ({ v:=sk,recovered:=true }::older)∧w'=(w.alloc (.cells #[] 301 (0,0))).setCell q (.slice vb vn vc):=by
 refine callsD_of_wpS func272 rfl fun c₀ cs hu=>?_
 apply wpS_seq
 apply wpS_region
 simp[wpOpsS,Oper.upon,go_sem,recoverD,hu,ntmps272,Exit.thenS,sk]
 apply wpS_seq
 apply wpS_region
 simp[wpOpsS,Oper.upon,go_sem,Exit.thenS]
 refine wpS_cond (t:=true) (by simp[go_sem]) ?_
 simp only[if_true]
 apply wpS_seq
 apply wpS_seq
 apply wpS_region
 have ha:∀ (W:World) (v:Value),(Instr.typeAssert (.iface 301 v) 20 301 true).run prog W=.ok (.tuple #[v,.bool true]) W:=fun W v=>by kernel_rfl
 have hal:∀ (W:World),(zeroValue 301).run prog W=.ok (.agg #[]) W:=fun W=>by kernel_rfl
 simp[wpOpsS,Oper.upon,go_sem,Exit.thenS,ha,hal,Instr.alloc,newVar,newRow]
 apply wpS_seq
 apply wpS_region
 simp[wpOpsS,Oper.upon,go_sem,Exit.thenS]
 refine wpS_cond (t:=false) (by simp[go_sem]) ?_
 simp only[Bool.false_eq_true,if_false]
 refine wpS_of_wp (wp_skip ?_)
 simp only[Exit.thenS]
 apply wpS_region
 simp[wpOpsS,Oper.upon,go_sem,Exit.thenS,hc,hp,hz,bodyPostS,results,results272]
theorem ss_idle (p q:Addr) (w:World) :
 CallsD prog 272 #[.pointer (some p),.pointer (some q)] .returning w fun e u' w'=>e=.returned (.tuple #[])∧u'=.returning∧w'=w:=by
 refine callsD_of_wpS func272 rfl fun c₀ cs hu=>?_
 apply wpS_seq
 apply wpS_region
 simp[wpOpsS,Oper.upon,go_sem,recoverD,hu,ntmps272,Exit.thenS]
 apply wpS_seq
 apply wpS_region
 simp[wpOpsS,Oper.upon,go_sem,Exit.thenS]
 refine wpS_cond (t:=false) (by simp[go_sem]) ?_
 simp only[Bool.false_eq_true,if_false]
 refine wpS_of_wp (wp_skip ?_)
 cases c₀
 simp_all [bodyPostS,results,results272]
end
section
open Go.RowKit Go.Proofs.Tryz
theorem yks {x0 x2:Value} {sb:Option Addr} {sn sc:Nat} {w:World} {R:Ending→World→Prop}
 (h:Calls prog 273 #[x0,.slice sb sn sc,x2] ((w.alloc (.cells #[.slice sb sn sc] 28 (0,0))).alloc (.cells #[.slice none 0 0] 28 (0,0))) R) (T:Ending→World→Prop)
 (hT:∀ e w',R e w'→w'.heap[w.heap.size]? = some (.cells #[.slice sb sn sc] 28 (0,0))∧w'.heap[w.heap.size+1]? = some (.cells #[.slice none 0 0] 28 (0,0)) ∧
  ((∃ vb vn vc,e=.returned (.slice vb vn vc)∧T (.returned (.slice vb vn vc)) (w'.setCell ⟨w.heap.size+1,0,none⟩ (.slice vb vn vc))) ∨
   (e=.panicked [{ v:=sk,recovered:=false }]∧T (.returned (.slice sb sn sc)) ((w'.alloc (.cells #[] 301 (0,0))).setCell ⟨w.heap.size+1,0,none⟩ (.slice sb sn sc))))) :
 Calls prog 250 #[x0,.slice sb sn sc,x2] w T:=by
 have hmf:∀ (fn:Fn) (first cap:Array Value) (w:World),(Instr.makeFunc fn first cap).run prog w=.ok (.func fn first cap) w:=fun _ _ _ _=>rfl
 go_enter_defers func250,ntmps250
 go_wp2_with (fail "")
 refine h.mono ?_
 intro e w' hR
 obtain⟨hb1,hb2,hT⟩:=hT e w' hR
 have hlt1:=(Array.getElem?_eq_some_iff.1 hb1).1
 have hlt2:=(Array.getElem?_eq_some_iff.1 hb2).1
 rename_i K1 a1 K2 a2
 rcases hT with ⟨vb,vn,vc,rfl,hT⟩|⟨rfl,hT⟩
 · have hc:w'.cell? ⟨w.heap.size+1,0,none⟩=some (.slice none 0 0):=by simp[World.cell?,hb2]
   have hz:w'.frozen? ⟨w.heap.size+1,0,none⟩=false:=frozen_of_row _ _ _ _ _ hb2
   refine a2 _ _ ?_
   go_wp2_with (fail "")
   refine leaves_cons (f:=272) (args:=#[.pointer (some ⟨w.heap.size,0,none⟩),.pointer (some ⟨w.heap.size+1,0,none⟩)]) (by simp) (by simp[go_sem]) ?_
   refine (ss_idle ⟨w.heap.size,0,none⟩ ⟨w.heap.size+1,0,none⟩ _).mono ?_
   rintro e u' w'' ⟨rfl,rfl,rfl⟩
   simp[Leaves,settle,results,results250,go_sem,hc,hz]
   exact hT
 · have hb1':∀ o,(w'.alloc o).heap[w.heap.size]? = some (.cells #[.slice sb sn sc] 28 (0,0)):=fun o=>by rw[znk _ _ _ hlt1];exact hb1
   have hb2':∀ o,(w'.alloc o).heap[w.heap.size+1]? = some (.cells #[.slice none 0 0] 28 (0,0)):=fun o=>by rw[znk _ _ _ hlt2];exact hb2
   have hp:∀ o,(w'.alloc o).cell? ⟨w.heap.size,0,none⟩=some (.slice sb sn sc):=fun o=>by simp only[World.cell?,hb1'];rfl
   have hc:∀ o,(w'.alloc o).cell? ⟨w.heap.size+1,0,none⟩=some (.slice none 0 0):=fun o=>by simp only[World.cell?,hb2'];rfl
   have hz:∀ o,(w'.alloc o).frozen? ⟨w.heap.size+1,0,none⟩=false:=fun o=>frozen_of_row _ _ _ _ _ (hb2' o)
   refine leaves_cons (f:=272) (args:=#[.pointer (some ⟨w.heap.size,0,none⟩),.pointer (some ⟨w.heap.size+1,0,none⟩)]) (by simp) (by simp[go_sem]) ?_
   refine (yj7 ⟨w.heap.size,0,none⟩ ⟨w.heap.size+1,0,none⟩ sb none sn sc 0 0 [] _ hp hc hz).mono ?_
   rintro e u' w'' ⟨rfl,rfl,rfl⟩
   simp[Leaves,settle,results,results250,go_sem,hc,hz]
   exact hT
theorem yjb {E:Env} {sz:Nat} {xs:List AV} {v:Value} (h:VR E (.lst sz xs) v):∃ b n c,v=.slice b n c:=by
 cases h with
 | lst _ _ b off cap u=>exact⟨_,_,_,rfl⟩
 | lstNil=>exact⟨_,_,_,rfl⟩
 | lstNo=>exact⟨_,_,_,rfl⟩
theorem step_ac (l:List Evt) (s:List EntD) (id:Int) (o:Option (List EntD)) (h:SC 273 [evs l,ents s,I id] o):AC prog 250 [evs l,ents s,I id] (ents (o.getD s)):=by
 refine⟨⟨_,func250,rfl,rfl⟩,zzk (zyk _) (zye _) (zx1 _),zw3 _,fun S w vs hS hl hv=>?_⟩
 obtain⟨x0,x1,x2,rfl⟩:∃ x0 x1 x2,vs=#[x0,x1,x2]:=by
  have h3:vs.size=3:=by simpa using hl
  refine⟨vs[0],vs[1],vs[2],?_⟩
  apply Array.ext
  · simpa using h3
  · intro i h1 h2
    have:i=0∨i=1∨i=2:=by simp at h2;omega
    rcases this with rfl|rfl|rfl<;>rfl
 have hx1:=hv 1 _ rfl
 obtain⟨sb,sn,sc,hx1'⟩:=yjb (sz:=3) (xs:=s.map ent) hx1
 have hx1'':x1=.slice sb sn sc:=by simpa using hx1'
 subst hx1''
 let w1:=w.alloc (.cells #[.slice sb sn sc] 28 (0,0))
 let w2:=w1.alloc (.cells #[.slice none 0 0] 28 (0,0))
 have hs1:w1.heap.size=w.heap.size+1:=by simp[w1]
 have hs2:w2.heap.size=w.heap.size+2:=by simp[w2,hs1]
 have hle:(env0 S w).Le (env0 S w2):=⟨fun _ h=>h,fun b hb=>by
  have:=hS b hb
  show w2.heap[b]? = w.heap[b]?
  rw[znk _ _ _ (by omega),znk _ _ _ (by omega)],fun _=>Nat.le_refl _,fun _ _=>rfl⟩
 have hB2:Below w.heap.size w w2:=((Below.refl _ _).alloc (Nat.le_refl _) _).alloc (by show w.heap.size≤w1.heap.size;omega) _
 have e1:w2.heap[w.heap.size]? = some (.cells #[.slice sb sn sc] 28 (0,0)):=by
  show (w1.alloc _).heap[w.heap.size]? = _
  rw[znk _ _ _ (by omega)];exact heap_alloc_new _ _
 have e2:w2.heap[w.heap.size+1]? = some (.cells #[.slice none 0 0] 28 (0,0)):=by
  show (w1.alloc _).heap[w.heap.size+1]? = _
  rw[← hs1];exact heap_alloc_new _ _
 have hvs:∀ (i:Nat) p,[evs l,ents s,I id][i]? = some p→VR (env0 S w2) p ((#[x0,.slice sb sn sc,x2]:Array Value).getD i undef):=fun i p hp=>(hv i p hp).mono hle
 have hS2:∀ b,S b→b < w2.heap.size:=fun b hb=>by have:=hS b hb;omega
 cases o with
 | some s' =>
  refine yks (AC.run h S w2 #[x0,.slice sb sn sc,x2] hS2 rfl hvs) _ fun e w' he=>?_
  obtain⟨v,S',rfl,hb,h1,h2,h3,h4⟩:=he
  have h4':VR (env0 S' w') (ents s') v:=h4
  obtain⟨vb,vn,vc,rfl⟩:=yjb h4'
  refine⟨by rw[hb.block _ (by omega)];exact e1,by rw[hb.block _ (by omega)];exact e2,.inl ⟨vb,vn,vc,rfl,_,S',rfl,?_,h1,?_,?_,?_⟩⟩
  · exact (hB2.trans (hb.mono (by omega))).setCell (by show w.heap.size≤w.heap.size+1;omega) _
  · intro b hb'
    rcases h2 b hb' with h|h
    · exact .inl h
    · exact .inr (by omega)
  · intro b hb'
    rw[yih];exact h3 b hb'
  · have hle2:(env0 S' w').Le (env0 S' (w'.setCell ⟨w.heap.size+1,0,none⟩ (.slice vb vn vc))):=⟨fun _ h=>h,fun b hb'=>by
     refine Below.heap_setCell _ _ _ _ ?_
     show b≠w.heap.size+1
     rcases h2 b hb' with h|h
     · have:=hS b h;omega
     · omega,fun _=>Nat.le_refl _,fun _ _=>rfl⟩
    exact h4'.mono hle2
 | none =>
  refine yks (PC.run h S w2 #[x0,.slice sb sn sc,x2] hS2 rfl hvs) _ fun e w' he=>?_
  obtain⟨rfl,hb⟩:=he
  refine⟨by rw[hb.block _ (by omega)];exact e1,by rw[hb.block _ (by omega)];exact e2,.inr ⟨rfl,_,S,rfl,?_,fun _ h=>h,fun _ h=>.inl h,?_,?_⟩⟩
  · exact ((hB2.trans (hb.mono (by omega))).alloc (by have:=hb.size;omega) _).setCell (by show w.heap.size≤w.heap.size+1;omega) _
  · intro b hb'
    rw[yih]
    have:=hS b hb'
    have:=hb.size
    simp
    omega
  · have h4:VR (env0 S w) (ents s) (.slice sb sn sc):=hx1
    have hle2:(env0 S w).Le (env0 S ((w'.alloc (.cells #[] 301 (0,0))).setCell ⟨w.heap.size+1,0,none⟩ (.slice sb sn sc))):=⟨fun _ h=>h,fun b hb'=>by
     have hbw:=hS b hb'
     have hsz:=hb.size
     show (((w'.alloc _).setCell _ _).heap[b]?)=w.heap[b]?
     rw[Below.heap_setCell _ _ _ _ (by show b≠w.heap.size+1;omega),znk _ _ _ (by omega),hb.block _ (by omega)]
     show w2.heap[b]? = w.heap[b]?
     rw[znk _ _ _ (by omega),znk _ _ _ (by omega)],fun _=>Nat.le_refl _,fun _ _=>rfl⟩
    exact h4.mono hle2
end
theorem zgj (l:List EntD) (hsz:l.length≤1000000000):AC prog 249 [ents l] (ents l):=by
 refine AC.ob func249 ntmps249 results249 (zzi (zye _)) (zye _) fun w S'=>AWp.of_vc [5] ?_
 simp[go_sem]
 refine⟨?_,?_⟩
 · refine⟨⟨by omega,by omega⟩,?_⟩
   refine PostR.retW [5] (r0:=ents l) ?_ (.refl _)
   simp[go_sem]
 · rintro rfl
   refine PostR.retW [] (r0:=.v (.slice none 0 0)) ?_ (.nil _)
   simp[go_sem]
def yko (l:List Evt) (s:List EntD) (id:Int):List EntD:=(setD l s id).getD s
def zd0 (l:List Evt) (s:List EntD) (ids:List Int):List EntD:=ids.foldl (yko l) s
theorem ykp (l:List Evt) (s:List EntD) (id:Int):(yko l s id).length≤s.length+1:=by
 unfold yko setD
 split
 · simp
 · split
   · simp
   · split
     · simp
     · simp only[Option.getD_some]
       have:=yil s
       exact this _ _ _
theorem zd2 {l:List Evt} {s:List EntD} {ids:List Int} {q:Nat} (h:q < ids.length):zd0 l s (ids.take (q+1))=yko l (zd0 l s (ids.take q)) ids[q]:=by
 unfold zd0
 rw[List.take_succ_eq_append_getElem h,List.foldl_append];rfl
theorem zd1 (l:List Evt):∀ (ids:List Int) (s:List EntD),(zd0 l s ids).length≤s.length+ids.length
 | [],s=>by simp[zd0]
 | x::ids,s=>by
  have h1:=zd1 l ids (yko l s x)
  have h2:=ykp l s x
  simp only[zd0,List.foldl_cons,List.length_cons]at h1 ⊢
  omega
theorem zd3 (l:List Evt) (s:List EntD) (ids:List Int) (hl:Good l) (hsz:s.length+ids.length≤100000):AC prog 215 [evs l,ents s,ints ids] (ents (zd0 l s ids)):=by
 refine AC.ob func215 ntmps215 results215 (zzk (zyk _) (zye _) (zyr _)) (zw3 _) fun w S'=>AWp.of_vc [] ?_
 simp[go_sem]
 refine cpu (zgj s (by omega)) ?_
 simp[go_sem]
 refine AWp.loop_vc [] (fun m s1=>∃ q:Nat,q≤ids.length∧m=ids.length - q∧s1.σ 0=evs l∧s1.σ 7=ents (zd0 l s (ids.take q))∧s1.σ 12=ints ids∧s1.σ 13=I ids.length∧s1.σ 14=I q) ids.length ⟨0,by simp[go_sem,zd0]⟩ ?_
 rintro m s1 ⟨q,hq,rfl,h0,h7,h12,h13,h14⟩
 have hws:IntKind.i64.wrap ((q:Int)+1)=(q:Int)+1:=wrapB (by omega) (by omega)
 by_cases hlt:q < ids.length
 · obtain⟨x,hx⟩:∃ x,ids[q]=x:=⟨_,rfl⟩
   have hsu:=zd2 (l:=l) (s:=s) hlt
   rw[hx]at hsu
   have hal:=zd1 l (ids.take q) s
   rw[List.length_take]at hal
   obtain⟨now,hnow⟩:∃ now,zd0 l s (ids.take q)=now:=⟨_,rfl⟩
   rw[hnow]at h7 hsu hal
   simp[go_sem,h0,h7,h12,h13,h14,hlt,hx]
   refine cpu (step_ac l now x _ (setD_sc l now x hl (by omega))) ?_
   simp[go_sem,h0,h7,h12,h13,h14,hlt,hws]
   refine⟨ids.length - (q+1),by omega,q+1,by omega,rfl,?_,by omega⟩
   rw[hsu]
   rfl
 · have htk:ids.take q=ids:=List.take_of_length_le (by omega)
   rw[htk]at h7
   simp[go_sem,h0,h7,h12,h13,h14,hlt]
   exact rets
end Go.Proofs.YthjmjdleecmaeaaGreat
