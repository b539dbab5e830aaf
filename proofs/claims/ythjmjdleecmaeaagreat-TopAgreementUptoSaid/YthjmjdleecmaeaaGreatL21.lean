/- Several texts of the proof in one: B13. No condition. -/
import Derived.Test.YthjmjdleecmaeaaGreatL20
set_option linter.unusedSimpArgs false
set_option linter.unusedVariables false
set_option maxHeartbeats 4000000
set_option maxRecDepth 8000
namespace Go.Abs
open Go Go.Proofs.Tryz
theorem AWp.cut {G:Ctx} {x y:Code} {Q:Exit→St→Prop} {st:St} (R:St→Prop) (h:AWp G x (thenA R Q) st) (k:∀ s,R s→AWp G y Q s):AWp G (.seq x y) Q st :=
 .seq (h.mono fun e s hq=>by
  cases e with
  | normal=>exact k s hq
  | _=>exact hq)
theorem AWp.step {G:Ctx} {x y:Code} {Q:Exit→St→Prop} {st:St} (own:List Nat) (h:ypy G own x (thenA (AWp G y Q) Q) st):AWp G (.seq x y) Q st :=
 .seq (.of_vc own h)
end Go.Abs
namespace Go.Proofs.YthjmjdleecmaeaaGreat
open Go Go.Abs Go.Proofs.Tryz
def lvZ:Level:=⟨[],0⟩
def klZ:KindLevel:=⟨0,0⟩
def ypn (l:List Level) (j:Nat):Int:=if znt (l.getD j lvZ).user [64]≠0 then 3 else if 0 < j∧leB (l.getD j lvZ).user (l.getD (j - 1) lvZ).user=true then 8 else if highB (l.getD j lvZ).n=true then 2 else 0
def ypq (l:List Level):Int:=if 100 < l.length then 7 else zk2 (ypn l) l.length
def zpq (l:List KindLevel) (j:Nat):Int:=if kindB (l.getD j klZ).kind=false then 1 else if 0 < j∧(l.getD j klZ).kind≤(l.getD (j - 1) klZ).kind then 8 else if highB (l.getD j klZ).n=true then 2 else 0
def zps (l:List KindLevel):Int:=if 100 < l.length then 7 else zk2 (zpq l) l.length
def zqm (v:Levels):Int:=if ypq v.users≠0 then ypq v.users else if zps v.kinds≠0 then zps v.kinds else if (zqw v).any highB=true then 2 else 0
theorem users_ac (l:List Level) (hs:∀ x∈l,x.user.length≤1000000000000):AC prog 221 [.lst 2 (l.map fun u=>.agg (lvc u))] (I (ypq l)):=by
 refine AC.ob func221 ntmps221 results221 (zzi (zyx zyy)) (zx1 _) fun w S'=>AWp.of_vc [] ?_
 unfold ypq
 by_cases h2:100 < l.length
 · have i2:(100:Int) < l.length:=by omega
   rw[if_pos h2]
   simp[go_sem,i2]
   exact rets
 rw[if_neg h2]
 have i2:¬ (100:Int) < l.length:=by omega
 simp[go_sem,i2]
 refine AWp.loop_vc [] (fun m s=>∃ q:Nat,q≤l.length∧m=l.length - q∧s.σ 0=.lst 2 (l.map fun u=>.agg (lvc u))∧s.σ 8=.lst 2 (l.map fun u=>.agg (lvc u))∧s.σ 9=I l.length∧s.σ 10=I q∧∀ j,j < q→ypn l j=0) l.length ⟨0,by simp[go_sem]⟩ ?_
 rintro m s ⟨q,hq,rfl,h0,h8,h9,h10,hno⟩
 by_cases hlt:q < l.length
 · obtain⟨x,hx⟩:∃ x,l[q]=x:=⟨_,rfl⟩
   have hgx:l.getD q lvZ=x:=by rw[← hx];simp[List.getD,hlt]
   have hws:IntKind.i64.wrap ((q:Int)+1)=(q:Int)+1:=wrapB (by omega) (by omega)
   have hxl:=hs x (hx ▸ List.getElem_mem hlt)
   simp[go_sem,h0,h8,h9,h10,hlt,hx,lvc]
   refine cpu (zns x.user hxl) ?_
   by_cases hz:znt x.user [64]=0
   case neg =>
    have hre:ypn l q=3:=by unfold ypn;rw[hgx];simp[hz]
    rw[zk5 hlt hno (by rw[hre];decide),hre]
    have hz2:(znt x.user [64] != 0)=true:=bne_iff_ne.2 hz
    simp[go_sem,h0,h8,h9,h10,hlt,hz,hz2]
    exact rets
   rw[hz]
   have hcond:(q=0∨∃ p,q=p+1):=by
    cases q with
    | zero=>exact .inl rfl
    | succ p=>exact .inr ⟨p,rfl⟩
   have hfin:(highB x.n=true→ypn l q=2)→(highB x.n=false→ypn l q=0)→True:=fun _ _=>trivial
   simp[go_sem,h0,h8,h9,h10,hlt,hx,lvc]
   refine da ?_
   rcases hcond with rfl|⟨p,rfl⟩
   · have hre:ypn l 0=if highB x.n=true then 2 else 0:=by unfold ypn;rw[hgx];simp[hz]
     simp[go_sem,h0,h8,h9,h10,hlt,hx,lvc]
     refine cpu (znl x.n) ?_
     cases hh:highB x.n with
     | true =>
      rw[hh]at hre
      rw[zk5 hlt hno (by rw[hre];decide),hre]
      simp[go_sem,h0,h8,h9,h10,hlt,hh,lvc]
      exact rets
     | false =>
      rw[hh]at hre
      simp[go_sem,h0,h8,h9,h10,hlt,hh,lvc]
      refine⟨l.length - 1,by omega,1,by omega,rfl,?_,zet hno hre⟩
      first|rfl|decide|simp
   · have hpl:p < l.length:=by omega
     obtain⟨y,hy⟩:∃ y,l[p]=y:=⟨_,rfl⟩
     have hgy:l.getD p lvZ=y:=by rw[← hy];simp[List.getD,hpl]
     have hre:ypn l (p+1)=if leB x.user y.user=true then 8 else if highB x.n=true then 2 else 0:=by
      unfold ypn
      rw[hgx,show p+1 - 1=p from rfl,hgy]
      simp[hz]
     have hw:IntKind.i64.wrap (((p:Int)+1) - 1)=(p:Int):=by rw[wrapB (by omega) (by omega)];omega
     have hw':IntKind.i64.wrap (p:Int)=(p:Int):=wrapB (by omega) (by omega)
     have hp0:(0:Int) < (p:Int)+1:=by omega
     have hws2:IntKind.i64.wrap ((p:Int)+1+1)=(p:Int)+1+1:=wrapB (by omega) (by omega)
     unfold leB at hre
     cases hb:(Op.bytesLess x.user y.user||x.user==y.user) with
     | true =>
      rw[hb]at hre
      simp only[Bool.false_eq_true,if_true,if_false]at hre
      rw[zk5 hlt hno (by rw[hre];decide),hre]
      simp[go_sem,h0,h8,h9,h10,hlt,hx,hw,hw',hp0,hpl,hy,lvc,hb,-Bool.or_eq_true]
      exact rets
     | false =>
      rw[hb]at hre
      simp only[Bool.false_eq_true,if_true,if_false]at hre
      simp[go_sem,h0,h8,h9,h10,hlt,hx,hw,hw',hp0,hpl,hy,lvc,hb,-Bool.or_eq_true]
      refine cpu (znl x.n) ?_
      cases hh:highB x.n with
      | true =>
       rw[hh]at hre
       rw[zk5 hlt hno (by rw[hre];decide),hre]
       simp[go_sem,h0,h8,h9,h10,hlt,hh,lvc]
       exact rets
      | false =>
       rw[hh]at hre
       simp[go_sem,h0,h8,h9,h10,hlt,hh,hws2,lvc]
       exact⟨l.length - (p+1+1),by omega,p+1+1,by omega,rfl,by omega,zet hno hre⟩
 · have hz:zk2 (ypn l) l.length=0:=zk3 fun j hj=>hno j (by omega)
   rw[hz]
   simp[go_sem,h0,h8,h9,h10,hlt]
   exact rets
theorem kinds_ac (l:List KindLevel):AC prog 222 [.lst 2 (l.map fun u=>.agg (klc u))] (I (zps l)):=by
 refine AC.ob func222 ntmps222 results222 (zzi (zyx zyt)) (zx1 _) fun w S'=>AWp.of_vc [] ?_
 unfold zps
 by_cases h2:100 < l.length
 · have i2:(100:Int) < l.length:=by omega
   rw[if_pos h2]
   simp[go_sem,i2]
   exact rets
 rw[if_neg h2]
 have i2:¬ (100:Int) < l.length:=by omega
 simp[go_sem,i2]
 refine AWp.loop_vc [] (fun m s=>∃ q:Nat,q≤l.length∧m=l.length - q∧s.σ 0=.lst 2 (l.map fun u=>.agg (klc u))∧s.σ 8=.lst 2 (l.map fun u=>.agg (klc u))∧s.σ 9=I l.length∧s.σ 10=I q∧∀ j,j < q→zpq l j=0) l.length ⟨0,by simp[go_sem]⟩ ?_
 rintro m s ⟨q,hq,rfl,h0,h8,h9,h10,hno⟩
 by_cases hlt:q < l.length
 · obtain⟨x,hx⟩:∃ x,l[q]=x:=⟨_,rfl⟩
   have hgx:l.getD q klZ=x:=by rw[← hx];simp[List.getD,hlt]
   have hws:IntKind.i64.wrap ((q:Int)+1)=(q:Int)+1:=wrapB (by omega) (by omega)
   simp[go_sem,h0,h8,h9,h10,hlt,hx,klc]
   refine cpu (zpw x.kind) ?_
   cases hz:kindB x.kind with
   | false =>
    have hre:zpq l q=1:=by unfold zpq;rw[hgx];simp[hz]
    rw[zk5 hlt hno (by rw[hre];decide),hre]
    simp[go_sem,h0,h8,h9,h10,hlt,hz]
    exact rets
   | true =>
   have hcond:(q=0∨∃ p,q=p+1):=by
    cases q with
    | zero=>exact .inl rfl
    | succ p=>exact .inr ⟨p,rfl⟩
   have hfin:(highB x.n=true→zpq l q=2)→(highB x.n=false→zpq l q=0)→True:=fun _ _=>trivial
   simp[go_sem,h0,h8,h9,h10,hlt,hx,klc]
   refine da ?_
   rcases hcond with rfl|⟨p,rfl⟩
   · have hre:zpq l 0=if highB x.n=true then 2 else 0:=by unfold zpq;rw[hgx];simp[hz]
     simp[go_sem,h0,h8,h9,h10,hlt,hx,klc]
     refine cpu (znl x.n) ?_
     cases hh:highB x.n with
     | true =>
      rw[hh]at hre
      rw[zk5 hlt hno (by rw[hre];decide),hre]
      simp[go_sem,h0,h8,h9,h10,hlt,hh,klc]
      exact rets
     | false =>
      rw[hh]at hre
      simp[go_sem,h0,h8,h9,h10,hlt,hh,klc]
      refine⟨l.length - 1,by omega,1,by omega,rfl,?_,zet hno hre⟩
      first|rfl|decide|simp
   · have hpl:p < l.length:=by omega
     obtain⟨y,hy⟩:∃ y,l[p]=y:=⟨_,rfl⟩
     have hgy:l.getD p klZ=y:=by rw[← hy];simp[List.getD,hpl]
     have hre:zpq l (p+1)=if x.kind≤y.kind then 8 else if highB x.n=true then 2 else 0:=by
      unfold zpq
      rw[hgx,show p+1 - 1=p from rfl,hgy]
      simp[hz]
     have hw:IntKind.i64.wrap (((p:Int)+1) - 1)=(p:Int):=by rw[wrapB (by omega) (by omega)];omega
     have hw':IntKind.i64.wrap (p:Int)=(p:Int):=wrapB (by omega) (by omega)
     have hp0:(0:Int) < (p:Int)+1:=by omega
     have hws2:IntKind.i64.wrap ((p:Int)+1+1)=(p:Int)+1+1:=wrapB (by omega) (by omega)
     cases hb:decide (x.kind≤y.kind) with
     | true =>
      have hb2:x.kind≤y.kind:=by simpa using hb
      rw[if_pos hb2]at hre
      rw[zk5 hlt hno (by rw[hre];decide),hre]
      simp[go_sem,h0,h8,h9,h10,hlt,hx,hw,hw',hp0,hpl,hy,klc,hb2]
      exact rets
     | false =>
      have hb2:¬ x.kind≤y.kind:=by simpa using hb
      rw[if_neg hb2]at hre
      simp[go_sem,h0,h8,h9,h10,hlt,hx,hw,hw',hp0,hpl,hy,klc,hb2]
      refine cpu (znl x.n) ?_
      cases hh:highB x.n with
      | true =>
       rw[hh]at hre
       rw[zk5 hlt hno (by rw[hre];decide),hre]
       simp[go_sem,h0,h8,h9,h10,hlt,hh,klc]
       exact rets
      | false =>
       rw[hh]at hre
       simp[go_sem,h0,h8,h9,h10,hlt,hh,hws2,klc]
       exact⟨l.length - (p+1+1),by omega,p+1+1,by omega,rfl,by omega,zet hno hre⟩
 · have hz:zk2 (zpq l) l.length=0:=zk3 fun j hj=>hno j (by omega)
   rw[hz]
   simp[go_sem,h0,h8,h9,h10,hlt]
   exact rets
theorem zy0 (v:Levels):Pure (.agg (lvsc v)):=zx3 fun c hc=>by
 simp only[lvsc,List.mem_cons,List.not_mem_nil,or_false]at hc
 rcases hc with rfl|rfl|rfl|rfl|rfl|rfl|rfl|rfl|rfl <;>
  first|exact zzh _|exact zyx zyy|exact zyx zyt
theorem zdr {α:Type} (p:α→Bool) (l:List α) (q:Nat) (h:q < l.length):(l.take (q+1)).any p=((l.take q).any p||p l[q]):=by
 rw[List.take_succ_eq_append_getElem h,List.any_append];simp
theorem zdo {α:Type} {p:α→Bool} {l:List α} {q:Nat} (h:q < l.length) (hp:p l[q]=true):l.any p=true:=by
 rw[List.any_eq_true];exact⟨l[q],List.getElem_mem h,hp⟩
theorem zqn (v:Levels) (hs:∀ x∈v.users,x.user.length≤1000000000000):AC prog 170 [.agg (lvsc v)] (I (zqm v)):=by
 refine AC.ob func170 ntmps170 results170 (zzi (zy0 _)) (zx1 _) fun w S'=>AWp.of_vc [] ?_
 obtain⟨r,hr⟩:∃ r,zqm v=r:=⟨_,rfl⟩
 rw[hr]
 unfold zqm at hr
 obtain⟨us,ks,n1,n2,n3,n4,n5,n6,n7⟩:=v
 simp[go_sem,lvsc]
 refine cpu (users_ac us hs) ?_
 by_cases hu:ypq us=0
 case neg =>
  have hu2:(ypq us != 0)=true:=bne_iff_ne.2 hu
  rw[if_pos hu]at hr
  rw[← hr]
  simp[go_sem,hu,hu2]
  exact rets
 rw[hu]
 simp[go_sem,lvsc]
 refine cpu (kinds_ac ks) ?_
 by_cases hk:zps ks=0
 case neg =>
  have hk2:(zps ks != 0)=true:=bne_iff_ne.2 hk
  simp only[ne_eq,hu,hk,not_true_eq_false,if_false,not_false_eq_true,if_true]at hr
  rw[← hr]
  simp[go_sem,hk,hk2]
  exact rets
 rw[hk]
 simp only[ne_eq,hu,hk,not_true_eq_false,if_false]at hr
 simp[go_sem,lvsc]
 refine AWp.loop_vc [] (fun m s=>∃ q:Nat,q≤7∧m=7 - q∧s.σ 33=.agg ((zqw ⟨us,ks,n1,n2,n3,n4,n5,n6,n7⟩).map I)∧s.σ 34=I q∧((zqw ⟨us,ks,n1,n2,n3,n4,n5,n6,n7⟩).take q).any highB=false) 7 ⟨0,by simp[go_sem,zqw]⟩ ?_
 have hNl:(zqw ⟨us,ks,n1,n2,n3,n4,n5,n6,n7⟩).length=7:=rfl
 generalize zqw ⟨us,ks,n1,n2,n3,n4,n5,n6,n7⟩=ns at *
 rintro m s ⟨q,hq,rfl,h33,h34,hno⟩
 by_cases hlt:q < 7
 · have hlt':q < ns.length:=by omega
   obtain⟨x,hx⟩:∃ x,ns[q]=x:=⟨_,rfl⟩
   have hpart:((ns.map I).drop q).take 1=[I x]:=by
    rw[List.drop_eq_getElem_cons (by simpa using hlt'),List.take_succ_cons,List.take_zero]
    simp[hx]
   have hint:(q:Int) < 7:=by omega
   have hq6:q≤6:=by omega
   have hw:IntKind.i64.wrap ((q:Int)+1)=(q:Int)+1:=wrapB (by omega) (by omega)
   simp[go_sem,h33,h34,hint,hNl,hpart,hq6,-List.map_drop,-List.map_take,-List.any_eq_true]
   refine cpu (znl x) ?_
   cases hh:highB x with
   | true =>
    have ha:ns.any highB=true:=zdo hlt' (by rw[hx,hh])
    rw[ha]at hr
    rw[← hr]
    simp[go_sem]
    exact rets
   | false =>
    have hn2:=zdr highB ns q hlt'
    rw[hno,hx,hh]at hn2
    simp[go_sem,h33,h34,hint,hw,-List.any_eq_true]
    exact⟨7 - (q+1),by omega,q+1,by omega,rfl,by omega,by
     have h3:(ns.take (q+1)).any highB=false:=hn2
     intro x hx
     have h4:=List.any_eq_false.1 h3 x hx
     simpa using h4⟩
 · have hint:¬ (q:Int) < 7:=by omega
   have htk:ns.take q=ns:=List.take_of_length_le (by omega)
   rw[htk]at hno
   rw[hno]at hr
   rw[← hr]
   simp[go_sem,h33,h34,hint]
   exact rets
def bareL (v:Levels):Bool:=decide (v.users=[])&&(decide (v.kinds=[])&&(zqw v).all fun n=>n==0)
theorem bare_ac (v:Levels):AC prog 219 [.agg (lvsc v)] (B (bareL v)):=by
 refine AC.ob func219 ntmps219 results219 (zzi (zy0 _)) (zx0 _) fun w S'=>AWp.of_vc [] ?_
 unfold bareL
 obtain⟨us,ks,n1,n2,n3,n4,n5,n6,n7⟩:=v
 by_cases c1:us=[]
 case neg =>
  simp[go_sem,lvsc,c1]
  refine PostR.ret ?_
  simp[go_sem,c1]
 by_cases c2:ks=[]
 case neg =>
  simp[go_sem,lvsc,c1,c2]
  refine PostR.ret ?_
  simp[go_sem,c1,c2]
 by_cases c3:n1=0
 case neg =>
  have g:(n1==0)=false:=beq_eq_false_iff_ne.2 c3
  simp[go_sem,lvsc,c1,c2,c3,g]
  refine PostR.ret ?_
  simp[go_sem,zqw,c1,c2,c3,g]
 by_cases c4:n2=0
 case neg =>
  have g:(n2==0)=false:=beq_eq_false_iff_ne.2 c4
  simp[go_sem,lvsc,c1,c2,c3,c4,g]
  refine PostR.ret ?_
  simp[go_sem,zqw,c1,c2,c3,c4,g]
 by_cases c5:n3=0
 case neg =>
  have g:(n3==0)=false:=beq_eq_false_iff_ne.2 c5
  simp[go_sem,lvsc,c1,c2,c3,c4,c5,g]
  refine PostR.ret ?_
  simp[go_sem,zqw,c1,c2,c3,c4,c5,g]
 by_cases c6:n4=0
 case neg =>
  have g:(n4==0)=false:=beq_eq_false_iff_ne.2 c6
  simp[go_sem,lvsc,c1,c2,c3,c4,c5,c6,g]
  refine PostR.ret ?_
  simp[go_sem,zqw,c1,c2,c3,c4,c5,c6,g]
 by_cases c7:n5=0
 case neg =>
  have g:(n5==0)=false:=beq_eq_false_iff_ne.2 c7
  simp[go_sem,lvsc,c1,c2,c3,c4,c5,c6,c7,g]
  refine PostR.ret ?_
  simp[go_sem,zqw,c1,c2,c3,c4,c5,c6,c7,g]
 by_cases c8:n6=0
 case neg =>
  have g:(n6==0)=false:=beq_eq_false_iff_ne.2 c8
  simp[go_sem,lvsc,c1,c2,c3,c4,c5,c6,c7,c8,g]
  refine PostR.ret ?_
  simp[go_sem,zqw,c1,c2,c3,c4,c5,c6,c7,c8,g]
 by_cases c9:n7=0
 case neg =>
  have g:(n7==0)=false:=beq_eq_false_iff_ne.2 c9
  simp[go_sem,lvsc,c1,c2,c3,c4,c5,c6,c7,c8,c9,g]
  refine PostR.ret ?_
  simp[go_sem,zqw,c1,c2,c3,c4,c5,c6,c7,c8,c9,g]
 simp[go_sem,lvsc,c1,c2,c3,c4,c5,c6,c7,c8,c9]
 refine PostR.ret ?_
 simp[go_sem,zqw,c1,c2,c3,c4,c5,c6,c7,c8,c9]
def bitIf (m:Int) (b:Bool) (k:Int):Int:=if b=true then orI .i64 m k else m
def setQ (c:Content):List (Bool×Int):=[(decide (c.text≠[]),1),(decide (c.n≠0),2),(decide (c.target≠0),4),(c.thread,8),(decide (c.via≠[]),16),(decide (c.allow≠[]),32),(decide (c.deny≠[]),64),(!bareL c.levels,128)]
def yim (c:Content) (i:Nat):Int:=((setQ c).take i).foldl (fun m p=>bitIf m p.1 p.2) 0
def setN (c:Content):Int:=yim c 8
theorem yig (c:Content):yim c 0=0:=rfl
theorem ynn:yls prog 216 1=some (1,167):=by kernel_rfl
theorem tAggF:tAgg prog 167=some false:=by kernel_rfl
theorem yoi:tSize prog 167=some 1:=by kernel_rfl
theorem zsk:Value.nilFunc.oneCell'=true:=rfl
theorem yh8 (c:Content):yim c 1=bitIf (yim c 0) (decide (c.text≠[])) 1:=rfl
theorem yh9 (c:Content):yim c 2=bitIf (yim c 1) (decide (c.n≠0)) 2:=rfl
theorem yia (c:Content):yim c 3=bitIf (yim c 2) (decide (c.target≠0)) 4:=rfl
theorem yib (c:Content):yim c 4=bitIf (yim c 3) (c.thread) 8:=rfl
theorem yic (c:Content):yim c 5=bitIf (yim c 4) (decide (c.via≠[])) 16:=rfl
theorem yid (c:Content):yim c 6=bitIf (yim c 5) (decide (c.allow≠[])) 32:=rfl
theorem yie (c:Content):yim c 7=bitIf (yim c 6) (decide (c.deny≠[])) 64:=rfl
theorem yif (c:Content):yim c 8=bitIf (yim c 7) (!bareL c.levels) 128:=rfl
def SetS (c:Content) (i:Nat) (s:St):Prop:=s.σ 1=.eptr (ctc c) 0∧s.σ 3=I (yim c i)
theorem setC_ac (c:Content):AC prog 162 [.agg (ctc c)] (I (setN c)):=by
 refine AC.ob func162 ntmps162 results162 (zzi (zya _)) (zx1 _) fun w S'=>?_
 refine AWp.step [] ?_
 simp[go_sem]
 refine AWp.step [] ?_
 simp[go_sem]
 refine AWp.cut (SetS c 1) (AWp.of_vc [] ?_) ?_
 · by_cases hc:c.text=[]
   · simp[go_sem,ctc,hc,SetS,yig,yh8,bitIf]
   · have g:(c.text != ([]:Bytes))=true:=bne_iff_ne.2 hc
     have g2:c.text.isEmpty=false:=by simpa using hc
     simp[go_sem,ctc,hc,g,g2,SetS,yig,yh8,bitIf]
 rintro s ⟨h1,h3⟩
 refine AWp.cut (SetS c 2) (AWp.of_vc [] ?_) ?_
 · by_cases hc:c.n=0
   · simp[go_sem,h1,h3,ctc,hc,SetS,yig,yh9,bitIf]
   · have g:(c.n != 0)=true:=bne_iff_ne.2 hc
     simp[go_sem,h1,h3,ctc,hc,g,SetS,yig,yh9,bitIf]
 rintro s ⟨h1,h3⟩
 refine AWp.cut (SetS c 3) (AWp.of_vc [] ?_) ?_
 · by_cases hc:c.target=0
   · simp[go_sem,h1,h3,ctc,hc,SetS,yig,yia,bitIf]
   · have g:(c.target != 0)=true:=bne_iff_ne.2 hc
     simp[go_sem,h1,h3,ctc,hc,g,SetS,yig,yia,bitIf]
 rintro s ⟨h1,h3⟩
 refine AWp.cut (SetS c 4) (AWp.of_vc [] ?_) ?_
 · cases hc:c.thread with
   | true =>
    simp[go_sem,h1,h3,ctc,hc,SetS,yig,yib,bitIf]
   | false =>
    simp[go_sem,h1,h3,ctc,hc,SetS,yig,yib,bitIf]
 rintro s ⟨h1,h3⟩
 refine AWp.cut (SetS c 5) (AWp.of_vc [] ?_) ?_
 · by_cases hc:c.via=[]
   · simp[go_sem,h1,h3,ctc,hc,SetS,yig,yic,bitIf]
   · have g:(c.via != ([]:Bytes))=true:=bne_iff_ne.2 hc
     have g2:c.via.isEmpty=false:=by simpa using hc
     simp[go_sem,h1,h3,ctc,hc,g,g2,SetS,yig,yic,bitIf]
 rintro s ⟨h1,h3⟩
 refine AWp.cut (SetS c 6) (AWp.of_vc [] ?_) ?_
 · by_cases hc:c.allow=[]
   · simp[go_sem,h1,h3,ctc,hc,SetS,yig,yid,bitIf]
   · have g:(0:Int) < c.allow.length:=by have:=List.length_pos_iff.2 hc;omega
     simp[go_sem,h1,h3,ctc,hc,g,SetS,yig,yid,bitIf]
 rintro s ⟨h1,h3⟩
 refine AWp.cut (SetS c 7) (AWp.of_vc [] ?_) ?_
 · by_cases hc:c.deny=[]
   · simp[go_sem,h1,h3,ctc,hc,SetS,yig,yie,bitIf]
   · have g:(0:Int) < c.deny.length:=by have:=List.length_pos_iff.2 hc;omega
     simp[go_sem,h1,h3,ctc,hc,g,SetS,yig,yie,bitIf]
 rintro s ⟨h1,h3⟩
 refine AWp.cut (SetS c 8) (AWp.of_vc [] ?_) ?_
 · simp[go_sem,h1,h3,ctc_7,zho]
   refine cpu (bare_ac c.levels) ?_
   cases hc:bareL c.levels with
   | true =>
    simp[go_sem,h1,h3,ctc,hc,SetS,yig,yif,bitIf]
   | false =>
    simp[go_sem,h1,h3,ctc,hc,SetS,yig,yif,bitIf]
 rintro s ⟨h1,h3⟩
 refine AWp.of_vc [] ?_
 simp[go_sem,h1,h3]
 refine PostR.ret ?_
 simp[go_sem,setN]
theorem ze3 {x:Level}:∀ {l:List Level},x∈l→x.user.length≤bkU l
 | y::l,h=>by
  simp only[bkU,List.map_cons,List.sum_cons]
  rcases List.mem_cons.1 h with rfl|h
  · omega
  · have:=ze3 h;simp only[bkU]at this;omega
theorem SmC.users {c:Content} (h:SmC c):∀ x∈c.levels.users,x.user.length≤1000000000000:=fun x hx=>by
 have:=ze3 hx
 unfold SmC bkC at h
 omega
def zjw (k:Int) (c:Content):Nat→Int
 | 0=>textI k c
 | 1=>nI k c.n
 | 2=>yox k c.target
 | 3=>yo2 c
 | 4=>viaI c
 | _=>zcn k c
def bitJ:Nat→Int
 | 0=>1
 | 1=>2
 | 2=>4
 | 3=>8
 | 4=>16
 | _=>32
def fieldAt (k:Int) (c:Content) (j:Nat):Int:=if andI .i64 (usesN k) (bitJ j)=0 then 0 else zjw k c j
def zge (k:Int) (c:Content):Int:=if kindB k=false∨zcu .i64 (setN c) (usesN k)≠0 then 1 else
 if setN c=0∧zo4 k=0 then 0 else if zk2 (fieldAt k c) 6≠0 then zk2 (fieldAt k c) 6 else
 if andI .i64 (usesN k) 64≠0 then patsI c.deny else if andI .i64 (usesN k) 128≠0 then zqm c.levels else 0
def zjx:List AV:=[.agg [I 1,.fn (.func 163) [] []],.agg [I 2,.fn (.func 164) [] []],.agg [I 4,.fn (.func 165) [] []],.agg [I 8,.fn (.func 166) [] []],.agg [I 16,.fn (.func 167) [] []],.agg [I 32,.fn (.func 168) [] []]]
theorem zgf (k:Int) (c:Content) (hs:SmC c):AC prog 110 [I k,.agg (ctc c)] (I (zge k c)):=by
 refine AC.ob func110 ntmps110 results110 (zzj (zx1 _) (zya _)) (zx1 _) fun w S'=>AWp.of_vc [] ?_
 obtain⟨r,hr⟩:∃ r,zge k c=r:=⟨_,rfl⟩
 rw[hr]
 unfold zge at hr
 obtain⟨F,hF⟩:∃ F,fieldAt k c=F:=⟨_,rfl⟩
 have hFj:∀ j,F j=if andI .i64 (usesN k) (bitJ j)=0 then 0 else zjw k c j:=fun j=>by rw[← hF];rfl
 rw[hF]at hr
 obtain⟨U,hU⟩:∃ U,usesN k=U:=⟨_,rfl⟩
 obtain⟨M,hM⟩:∃ M,setN c=M:=⟨_,rfl⟩
 obtain⟨W,hW⟩:∃ W,zo4 k=W:=⟨_,rfl⟩
 have uac:=ypr k
 have sac:=setC_ac c
 have kac:=zo5 k
 simp only[hU,hM,hW]at hr hFj uac sac kac
 simp[go_sem]
 refine cpu uac ?_
 simp[go_sem]
 refine cpu (zpw k) ?_
 cases hk:kindB k with
 | false =>
  rw[if_pos (.inl hk)]at hr
  rw[← hr]
  simp[go_sem]
  exact rets
 | true =>
  simp[go_sem]
  refine CallSem.pure sac (by simp[go_sem,ctc]) ?_
  by_cases ha:zcu .i64 M U=0
  case neg =>
   rw[if_pos (.inr ha)]at hr
   rw[← hr]
   have ha2:(zcu .i64 M U != 0)=true:=bne_iff_ne.2 ha
   simp[go_sem,ha,ha2]
   exact rets
  rw[if_neg (by rw[hk];simp[ha])]at hr
  simp[go_sem,ha]
  refine CallSem.pure sac (by simp[go_sem,ctc]) ?_
  have hcase:(M=0∧W=0)∨¬ (M=0∧W=0):=Decidable.em _
  have hrest:¬ (M=0∧W=0)→r=(if zk2 F 6≠0 then zk2 F 6 else if andI .i64 U 64≠0 then patsI c.deny else if andI .i64 U 128≠0 then zqm c.levels else 0):=fun h=>by
   rw[if_neg h]at hr;exact hr.symm
  have hzero:M=0∧W=0→r=0:=fun h=>by rw[if_pos h]at hr;exact hr.symm
  clear hr
  by_cases hm:M=0
  · simp[go_sem,hm]
    refine cpu kac ?_
    by_cases hw:W=0
    · rw[hzero ⟨hm,hw⟩]
      simp[go_sem,hw]
      exact rets
    · have hr:=hrest (fun h=>hw h.2)
      have hw2:(W==0)=false:=beq_eq_false_iff_ne.2 hw
      simp[go_sem,hw,hw2]
      refine AWp.loop_vc [] (fun m s=>∃ q:Nat,q≤6∧m=6 - q∧s.σ 0=I k∧s.σ 3=.eptr (ctc c) 0∧s.σ 5=I U∧s.σ 37=.lst 2 zjx∧s.σ 38=I 6∧s.σ 39=I q∧∀ j,j < q→F j=0) 6 ⟨0,by simp[go_sem,zjx]⟩ ?_
      rintro m s ⟨q,hq,rfl,h0,h3,h5,h37,h38,h39,hno⟩
      have hq7:q=0∨q=1∨q=2∨q=3∨q=4∨q=5∨q=6:=by omega
      rcases hq7 with rfl|rfl|rfl|rfl|rfl|rfl|rfl
      · have hF0:=hFj 0
        by_cases hb:andI .i64 U 1=0
        · have hz:F 0=0:=by rw[hF0];exact if_pos hb
          simp[go_sem,h0,h3,h5,h37,h38,h39,zjx,zsk,ynn,tAggF,yoi,hb]
          exact⟨5,by omega,1,by omega,by omega,by first|rfl|decide,zet hno hz⟩
        · have hv:F 0=textI k c:=by rw[hF0];exact if_neg hb
          have hb2:(andI .i64 U 1==0)=false:=beq_eq_false_iff_ne.2 hb
          simp[go_sem,h0,h3,h5,h37,h38,h39,zjx,zsk,ynn,tAggF,yoi,hb,hb2]
          refine cpu (yoz k c) ?_
          by_cases hz:textI k c=0
          · rw[hz]at hv ⊢
            simp[go_sem,h0,h3,h5,h37,h38,h39,zjx,zsk,ynn,tAggF,yoi]
            exact⟨5,by omega,1,by omega,by omega,by first|rfl|decide,zet hno hv⟩
          · have hne:¬ F 0=0:=by rw[hv];exact hz
            have hh:=zk5 (n:=6) (by omega) hno hne
            have hz2:(textI k c != 0)=true:=bne_iff_ne.2 hz
            have hre:r=textI k c:=by rw[hr,hh,if_pos hne,hv]
            rw[hre]
            simp[go_sem,h0,h3,h5,h37,h38,h39,zjx,zsk,ynn,tAggF,yoi,hz,hz2]
            exact rets
      · have hF0:=hFj 1
        by_cases hb:andI .i64 U 2=0
        · have hz:F 1=0:=by rw[hF0];exact if_pos hb
          simp[go_sem,h0,h3,h5,h37,h38,h39,zjx,zsk,ynn,tAggF,yoi,hb]
          exact⟨4,by omega,2,by omega,by omega,by first|rfl|decide,zet hno hz⟩
        · have hv:F 1=nI k c.n:=by rw[hF0];exact if_neg hb
          have hb2:(andI .i64 U 2==0)=false:=beq_eq_false_iff_ne.2 hb
          simp[go_sem,h0,h3,h5,h37,h38,h39,zjx,zsk,ynn,tAggF,yoi,hb,hb2]
          refine cpu (cn_ac k c) ?_
          by_cases hz:nI k c.n=0
          · rw[hz]at hv ⊢
            simp[go_sem,h0,h3,h5,h37,h38,h39,zjx,zsk,ynn,tAggF,yoi]
            exact⟨4,by omega,2,by omega,by omega,by first|rfl|decide,zet hno hv⟩
          · have hne:¬ F 1=0:=by rw[hv];exact hz
            have hh:=zk5 (n:=6) (by omega) hno hne
            have hz2:(nI k c.n != 0)=true:=bne_iff_ne.2 hz
            have hre:r=nI k c.n:=by rw[hr,hh,if_pos hne,hv]
            rw[hre]
            simp[go_sem,h0,h3,h5,h37,h38,h39,zjx,zsk,ynn,tAggF,yoi,hz,hz2]
            exact rets
      · have hF0:=hFj 2
        by_cases hb:andI .i64 U 4=0
        · have hz:F 2=0:=by rw[hF0];exact if_pos hb
          simp[go_sem,h0,h3,h5,h37,h38,h39,zjx,zsk,ynn,tAggF,yoi,hb]
          exact⟨3,by omega,3,by omega,by omega,by first|rfl|decide,zet hno hz⟩
        · have hv:F 2=yox k c.target:=by rw[hF0];exact if_neg hb
          have hb2:(andI .i64 U 4==0)=false:=beq_eq_false_iff_ne.2 hb
          simp[go_sem,h0,h3,h5,h37,h38,h39,zjx,zsk,ynn,tAggF,yoi,hb,hb2]
          refine cpu (yoy k c) ?_
          by_cases hz:yox k c.target=0
          · rw[hz]at hv ⊢
            simp[go_sem,h0,h3,h5,h37,h38,h39,zjx,zsk,ynn,tAggF,yoi]
            exact⟨3,by omega,3,by omega,by omega,by first|rfl|decide,zet hno hv⟩
          · have hne:¬ F 2=0:=by rw[hv];exact hz
            have hh:=zk5 (n:=6) (by omega) hno hne
            have hz2:(yox k c.target != 0)=true:=bne_iff_ne.2 hz
            have hre:r=yox k c.target:=by rw[hr,hh,if_pos hne,hv]
            rw[hre]
            simp[go_sem,h0,h3,h5,h37,h38,h39,zjx,zsk,ynn,tAggF,yoi,hz,hz2]
            exact rets
      · have hF0:=hFj 3
        by_cases hb:andI .i64 U 8=0
        · have hz:F 3=0:=by rw[hF0];exact if_pos hb
          simp[go_sem,h0,h3,h5,h37,h38,h39,zjx,zsk,ynn,tAggF,yoi,hb]
          exact⟨2,by omega,4,by omega,by omega,by first|rfl|decide,zet hno hz⟩
        · have hv:F 3=yo2 c:=by rw[hF0];exact if_neg hb
          have hb2:(andI .i64 U 8==0)=false:=beq_eq_false_iff_ne.2 hb
          simp[go_sem,h0,h3,h5,h37,h38,h39,zjx,zsk,ynn,tAggF,yoi,hb,hb2]
          refine cpu (yo3 k c) ?_
          by_cases hz:yo2 c=0
          · rw[hz]at hv ⊢
            simp[go_sem,h0,h3,h5,h37,h38,h39,zjx,zsk,ynn,tAggF,yoi]
            exact⟨2,by omega,4,by omega,by omega,by first|rfl|decide,zet hno hv⟩
          · have hne:¬ F 3=0:=by rw[hv];exact hz
            have hh:=zk5 (n:=6) (by omega) hno hne
            have hz2:(yo2 c != 0)=true:=bne_iff_ne.2 hz
            have hre:r=yo2 c:=by rw[hr,hh,if_pos hne,hv]
            rw[hre]
            simp[go_sem,h0,h3,h5,h37,h38,h39,zjx,zsk,ynn,tAggF,yoi,hz,hz2]
            exact rets
      · have hF0:=hFj 4
        by_cases hb:andI .i64 U 16=0
        · have hz:F 4=0:=by rw[hF0];exact if_pos hb
          simp[go_sem,h0,h3,h5,h37,h38,h39,zjx,zsk,ynn,tAggF,yoi,hb]
          exact⟨1,by omega,5,by omega,by omega,by first|rfl|decide,zet hno hz⟩
        · have hv:F 4=viaI c:=by rw[hF0];exact if_neg hb
          have hb2:(andI .i64 U 16==0)=false:=beq_eq_false_iff_ne.2 hb
          simp[go_sem,h0,h3,h5,h37,h38,h39,zjx,zsk,ynn,tAggF,yoi,hb,hb2]
          refine cpu (via_ac k c hs) ?_
          by_cases hz:viaI c=0
          · rw[hz]at hv ⊢
            simp[go_sem,h0,h3,h5,h37,h38,h39,zjx,zsk,ynn,tAggF,yoi]
            exact⟨1,by omega,5,by omega,by omega,by first|rfl|decide,zet hno hv⟩
          · have hne:¬ F 4=0:=by rw[hv];exact hz
            have hh:=zk5 (n:=6) (by omega) hno hne
            have hz2:(viaI c != 0)=true:=bne_iff_ne.2 hz
            have hre:r=viaI c:=by rw[hr,hh,if_pos hne,hv]
            rw[hre]
            simp[go_sem,h0,h3,h5,h37,h38,h39,zjx,zsk,ynn,tAggF,yoi,hz,hz2]
            exact rets
      · have hF0:=hFj 5
        by_cases hb:andI .i64 U 32=0
        · have hz:F 5=0:=by rw[hF0];exact if_pos hb
          simp[go_sem,h0,h3,h5,h37,h38,h39,zjx,zsk,ynn,tAggF,yoi,hb]
          exact⟨6,by omega,by omega,by first|rfl|decide,zet hno hz⟩
        · have hv:F 5=zcn k c:=by rw[hF0];exact if_neg hb
          have hb2:(andI .i64 U 32==0)=false:=beq_eq_false_iff_ne.2 hb
          simp[go_sem,h0,h3,h5,h37,h38,h39,zjx,zsk,ynn,tAggF,yoi,hb,hb2]
          refine cpu (zco k c hs) ?_
          by_cases hz:zcn k c=0
          · rw[hz]at hv ⊢
            simp[go_sem,h0,h3,h5,h37,h38,h39,zjx,zsk,ynn,tAggF,yoi]
            exact⟨6,by omega,by omega,by first|rfl|decide,zet hno hv⟩
          · have hne:¬ F 5=0:=by rw[hv];exact hz
            have hh:=zk5 (n:=6) (by omega) hno hne
            have hz2:(zcn k c != 0)=true:=bne_iff_ne.2 hz
            have hre:r=zcn k c:=by rw[hr,hh,if_pos hne,hv]
            rw[hre]
            simp[go_sem,h0,h3,h5,h37,h38,h39,zjx,zsk,ynn,tAggF,yoi,hz,hz2]
            exact rets
      · have hall:=zk3 hno
        rw[hall]at hr
        simp only[ne_eq,not_true_eq_false,if_false]at hr
        by_cases h64:andI .i64 U 64=0
        · have g64:(andI .i64 U 64==0)=true:=by rw[h64];rfl
          by_cases h128:andI .i64 U 128=0
          · rw[if_neg (by simp[h64]),if_neg (by simp[h128])]at hr
            rw[hr]
            simp[go_sem,h0,h3,h5,h37,h38,h39,zjx,zsk,ynn,tAggF,yoi,h64,h128]
            exact rets
          · have g128:(andI .i64 U 128 != 0)=true:=bne_iff_ne.2 h128
            rw[if_neg (by simp[h64]),if_pos h128]at hr
            rw[hr]
            simp[go_sem,h0,h3,h5,h37,h38,h39,zjx,zsk,ynn,tAggF,yoi,h64,h128,g128,ctc_7,zho]
            refine cpu (zqn c.levels hs.users) ?_
            simp[go_sem,h0,h3,h5,h37,h38,h39,zjx,zsk,ynn,tAggF,yoi,h64]
            exact rets
        · have g64:(andI .i64 U 64 != 0)=true:=bne_iff_ne.2 h64
          rw[if_pos h64]at hr
          rw[hr]
          simp[go_sem,h0,h3,h5,h37,h38,h39,zjx,zsk,ynn,tAggF,yoi,h64,g64,ctc]
          refine cpu (zvy c.deny) ?_
          simp[go_sem,h0,h3,h5,h37,h38,h39,zjx,zsk,ynn,tAggF,yoi,h64]
          exact rets
  · have hr:=hrest (fun h=>hm h.1)
    have hm2:(M==0)=false:=beq_eq_false_iff_ne.2 hm
    simp[go_sem,hm,hm2]
    refine AWp.loop_vc [] (fun m s=>∃ q:Nat,q≤6∧m=6 - q∧s.σ 0=I k∧s.σ 3=.eptr (ctc c) 0∧s.σ 5=I U∧s.σ 37=.lst 2 zjx∧s.σ 38=I 6∧s.σ 39=I q∧∀ j,j < q→F j=0) 6 ⟨0,by simp[go_sem,zjx]⟩ ?_
    rintro m s ⟨q,hq,rfl,h0,h3,h5,h37,h38,h39,hno⟩
    have hq7:q=0∨q=1∨q=2∨q=3∨q=4∨q=5∨q=6:=by omega
    rcases hq7 with rfl|rfl|rfl|rfl|rfl|rfl|rfl
    · have hF0:=hFj 0
      by_cases hb:andI .i64 U 1=0
      · have hz:F 0=0:=by rw[hF0];exact if_pos hb
        simp[go_sem,h0,h3,h5,h37,h38,h39,zjx,zsk,ynn,tAggF,yoi,hb]
        exact⟨5,by omega,1,by omega,by omega,by first|rfl|decide,zet hno hz⟩
      · have hv:F 0=textI k c:=by rw[hF0];exact if_neg hb
        have hb2:(andI .i64 U 1==0)=false:=beq_eq_false_iff_ne.2 hb
        simp[go_sem,h0,h3,h5,h37,h38,h39,zjx,zsk,ynn,tAggF,yoi,hb,hb2]
        refine cpu (yoz k c) ?_
        by_cases hz:textI k c=0
        · rw[hz]at hv ⊢
          simp[go_sem,h0,h3,h5,h37,h38,h39,zjx,zsk,ynn,tAggF,yoi]
          exact⟨5,by omega,1,by omega,by omega,by first|rfl|decide,zet hno hv⟩
        · have hne:¬ F 0=0:=by rw[hv];exact hz
          have hh:=zk5 (n:=6) (by omega) hno hne
          have hz2:(textI k c != 0)=true:=bne_iff_ne.2 hz
          have hre:r=textI k c:=by rw[hr,hh,if_pos hne,hv]
          rw[hre]
          simp[go_sem,h0,h3,h5,h37,h38,h39,zjx,zsk,ynn,tAggF,yoi,hz,hz2]
          exact rets
    · have hF0:=hFj 1
      by_cases hb:andI .i64 U 2=0
      · have hz:F 1=0:=by rw[hF0];exact if_pos hb
        simp[go_sem,h0,h3,h5,h37,h38,h39,zjx,zsk,ynn,tAggF,yoi,hb]
        exact⟨4,by omega,2,by omega,by omega,by first|rfl|decide,zet hno hz⟩
      · have hv:F 1=nI k c.n:=by rw[hF0];exact if_neg hb
        have hb2:(andI .i64 U 2==0)=false:=beq_eq_false_iff_ne.2 hb
        simp[go_sem,h0,h3,h5,h37,h38,h39,zjx,zsk,ynn,tAggF,yoi,hb,hb2]
        refine cpu (cn_ac k c) ?_
        by_cases hz:nI k c.n=0
        · rw[hz]at hv ⊢
          simp[go_sem,h0,h3,h5,h37,h38,h39,zjx,zsk,ynn,tAggF,yoi]
          exact⟨4,by omega,2,by omega,by omega,by first|rfl|decide,zet hno hv⟩
        · have hne:¬ F 1=0:=by rw[hv];exact hz
          have hh:=zk5 (n:=6) (by omega) hno hne
          have hz2:(nI k c.n != 0)=true:=bne_iff_ne.2 hz
          have hre:r=nI k c.n:=by rw[hr,hh,if_pos hne,hv]
          rw[hre]
          simp[go_sem,h0,h3,h5,h37,h38,h39,zjx,zsk,ynn,tAggF,yoi,hz,hz2]
          exact rets
    · have hF0:=hFj 2
      by_cases hb:andI .i64 U 4=0
      · have hz:F 2=0:=by rw[hF0];exact if_pos hb
        simp[go_sem,h0,h3,h5,h37,h38,h39,zjx,zsk,ynn,tAggF,yoi,hb]
        exact⟨3,by omega,3,by omega,by omega,by first|rfl|decide,zet hno hz⟩
      · have hv:F 2=yox k c.target:=by rw[hF0];exact if_neg hb
        have hb2:(andI .i64 U 4==0)=false:=beq_eq_false_iff_ne.2 hb
        simp[go_sem,h0,h3,h5,h37,h38,h39,zjx,zsk,ynn,tAggF,yoi,hb,hb2]
        refine cpu (yoy k c) ?_
        by_cases hz:yox k c.target=0
        · rw[hz]at hv ⊢
          simp[go_sem,h0,h3,h5,h37,h38,h39,zjx,zsk,ynn,tAggF,yoi]
          exact⟨3,by omega,3,by omega,by omega,by first|rfl|decide,zet hno hv⟩
        · have hne:¬ F 2=0:=by rw[hv];exact hz
          have hh:=zk5 (n:=6) (by omega) hno hne
          have hz2:(yox k c.target != 0)=true:=bne_iff_ne.2 hz
          have hre:r=yox k c.target:=by rw[hr,hh,if_pos hne,hv]
          rw[hre]
          simp[go_sem,h0,h3,h5,h37,h38,h39,zjx,zsk,ynn,tAggF,yoi,hz,hz2]
          exact rets
    · have hF0:=hFj 3
      by_cases hb:andI .i64 U 8=0
      · have hz:F 3=0:=by rw[hF0];exact if_pos hb
        simp[go_sem,h0,h3,h5,h37,h38,h39,zjx,zsk,ynn,tAggF,yoi,hb]
        exact⟨2,by omega,4,by omega,by omega,by first|rfl|decide,zet hno hz⟩
      · have hv:F 3=yo2 c:=by rw[hF0];exact if_neg hb
        have hb2:(andI .i64 U 8==0)=false:=beq_eq_false_iff_ne.2 hb
        simp[go_sem,h0,h3,h5,h37,h38,h39,zjx,zsk,ynn,tAggF,yoi,hb,hb2]
        refine cpu (yo3 k c) ?_
        by_cases hz:yo2 c=0
        · rw[hz]at hv ⊢
          simp[go_sem,h0,h3,h5,h37,h38,h39,zjx,zsk,ynn,tAggF,yoi]
          exact⟨2,by omega,4,by omega,by omega,by first|rfl|decide,zet hno hv⟩
        · have hne:¬ F 3=0:=by rw[hv];exact hz
          have hh:=zk5 (n:=6) (by omega) hno hne
          have hz2:(yo2 c != 0)=true:=bne_iff_ne.2 hz
          have hre:r=yo2 c:=by rw[hr,hh,if_pos hne,hv]
          rw[hre]
          simp[go_sem,h0,h3,h5,h37,h38,h39,zjx,zsk,ynn,tAggF,yoi,hz,hz2]
          exact rets
    · have hF0:=hFj 4
      by_cases hb:andI .i64 U 16=0
      · have hz:F 4=0:=by rw[hF0];exact if_pos hb
        simp[go_sem,h0,h3,h5,h37,h38,h39,zjx,zsk,ynn,tAggF,yoi,hb]
        exact⟨1,by omega,5,by omega,by omega,by first|rfl|decide,zet hno hz⟩
      · have hv:F 4=viaI c:=by rw[hF0];exact if_neg hb
        have hb2:(andI .i64 U 16==0)=false:=beq_eq_false_iff_ne.2 hb
        simp[go_sem,h0,h3,h5,h37,h38,h39,zjx,zsk,ynn,tAggF,yoi,hb,hb2]
        refine cpu (via_ac k c hs) ?_
        by_cases hz:viaI c=0
        · rw[hz]at hv ⊢
          simp[go_sem,h0,h3,h5,h37,h38,h39,zjx,zsk,ynn,tAggF,yoi]
          exact⟨1,by omega,5,by omega,by omega,by first|rfl|decide,zet hno hv⟩
        · have hne:¬ F 4=0:=by rw[hv];exact hz
          have hh:=zk5 (n:=6) (by omega) hno hne
          have hz2:(viaI c != 0)=true:=bne_iff_ne.2 hz
          have hre:r=viaI c:=by rw[hr,hh,if_pos hne,hv]
          rw[hre]
          simp[go_sem,h0,h3,h5,h37,h38,h39,zjx,zsk,ynn,tAggF,yoi,hz,hz2]
          exact rets
    · have hF0:=hFj 5
      by_cases hb:andI .i64 U 32=0
      · have hz:F 5=0:=by rw[hF0];exact if_pos hb
        simp[go_sem,h0,h3,h5,h37,h38,h39,zjx,zsk,ynn,tAggF,yoi,hb]
        exact⟨6,by omega,by omega,by first|rfl|decide,zet hno hz⟩
      · have hv:F 5=zcn k c:=by rw[hF0];exact if_neg hb
        have hb2:(andI .i64 U 32==0)=false:=beq_eq_false_iff_ne.2 hb
        simp[go_sem,h0,h3,h5,h37,h38,h39,zjx,zsk,ynn,tAggF,yoi,hb,hb2]
        refine cpu (zco k c hs) ?_
        by_cases hz:zcn k c=0
        · rw[hz]at hv ⊢
          simp[go_sem,h0,h3,h5,h37,h38,h39,zjx,zsk,ynn,tAggF,yoi]
          exact⟨6,by omega,by omega,by first|rfl|decide,zet hno hv⟩
        · have hne:¬ F 5=0:=by rw[hv];exact hz
          have hh:=zk5 (n:=6) (by omega) hno hne
          have hz2:(zcn k c != 0)=true:=bne_iff_ne.2 hz
          have hre:r=zcn k c:=by rw[hr,hh,if_pos hne,hv]
          rw[hre]
          simp[go_sem,h0,h3,h5,h37,h38,h39,zjx,zsk,ynn,tAggF,yoi,hz,hz2]
          exact rets
    · have hall:=zk3 hno
      rw[hall]at hr
      simp only[ne_eq,not_true_eq_false,if_false]at hr
      by_cases h64:andI .i64 U 64=0
      · have g64:(andI .i64 U 64==0)=true:=by rw[h64];rfl
        by_cases h128:andI .i64 U 128=0
        · rw[if_neg (by simp[h64]),if_neg (by simp[h128])]at hr
          rw[hr]
          simp[go_sem,h0,h3,h5,h37,h38,h39,zjx,zsk,ynn,tAggF,yoi,h64,h128]
          exact rets
        · have g128:(andI .i64 U 128 != 0)=true:=bne_iff_ne.2 h128
          rw[if_neg (by simp[h64]),if_pos h128]at hr
          rw[hr]
          simp[go_sem,h0,h3,h5,h37,h38,h39,zjx,zsk,ynn,tAggF,yoi,h64,h128,g128,ctc_7,zho]
          refine cpu (zqn c.levels hs.users) ?_
          simp[go_sem,h0,h3,h5,h37,h38,h39,zjx,zsk,ynn,tAggF,yoi,h64]
          exact rets
      · have g64:(andI .i64 U 64 != 0)=true:=bne_iff_ne.2 h64
        rw[if_pos h64]at hr
        rw[hr]
        simp[go_sem,h0,h3,h5,h37,h38,h39,zjx,zsk,ynn,tAggF,yoi,h64,g64,ctc]
        refine cpu (zvy c.deny) ?_
        simp[go_sem,h0,h3,h5,h37,h38,h39,zjx,zsk,ynn,tAggF,yoi,h64]
        exact rets
end Go.Proofs.YthjmjdleecmaeaaGreat
