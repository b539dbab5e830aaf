/- Several texts of the proof in one: B19, B20. No condition. -/
import Derived.Test.YthjmjdleecmaeaaGreatL31
set_option linter.unusedSimpArgs false
set_option linter.unusedVariables false
set_option maxHeartbeats 4000000
set_option maxRecDepth 8000
namespace Go.Proofs.YthjmjdleecmaeaaGreat
open Go Go.Abs Go.Proofs.Tryz
def yrz (own:Int) (a b:List Int):Bool:=(List.range 7).any fun i=>barB own (a.getD i 0) (b.getD i 0)
def zpp (o n:Levels) (own:Int) (x:KindLevel):Bool:=barB own (zr7 o x.kind) (zr7 n x.kind)
def ypm (o n:Levels) (own:Int) (u:Bytes) (x:Level):Bool :=
 barB own (ypo o x.user) (ypo n x.user)||(ypo o x.user != ypo n x.user&&(x.user != u&&decide (own≤ypo o x.user)))
def zgc (o n:Levels) (u:Bytes):Int :=
 if yrz (ypo o u) (zqw o) (zqw n)=true then 20 else
 if o.kinds.any (zpp o n (ypo o u))=true then 20 else if n.kinds.any (zpp o n (ypo o u))=true then 20 else
 if o.users.any (ypm o n (ypo o u) u)=true then 20 else if n.users.any (ypm o n (ypo o u) u)=true then 20 else 0
def zai {α:Type} (p:α→Bool) (l:List α):Prop:=l.any p=false
theorem zsr {α:Type} {p:α→Bool} {l:List α} (h:∀ (j:Nat) (hj:j < l.length),p l[j]=false):l.any p=false:=by
 rw[List.any_eq_false]
 intro x hx
 obtain⟨j,hj,rfl⟩:=List.mem_iff_getElem.1 hx
 rw[h j hj];decide
theorem zip_hit {own:Int} {a b:List Int} {q:Nat} (hq:q < 7) (h:barB own (a.getD q 0) (b.getD q 0)=true):yrz own a b=true:=by
 unfold yrz
 rw[List.any_eq_true]
 exact⟨q,List.mem_range.2 hq,h⟩
theorem zip_miss {own:Int} {a b:List Int} (h:∀ j,j < 7→barB own (a.getD j 0) (b.getD j 0)=false):yrz own a b=false:=by
 unfold yrz
 rw[List.any_eq_false]
 intro x hx
 rw[h x (List.mem_range.1 hx)];decide
theorem zgd (o n:Levels) (u:Bytes) (h1:o.users.length≤1000000000) (h2:n.users.length≤1000000000) (h3:o.kinds.length≤1000000000) (h4:n.kinds.length≤1000000000) :
 AC prog 138 [.agg (lvsc o),.agg (lvsc n),S u] (I (zgc o n u)):=by
 refine AC.ob func138 ntmps138 results138 (zzk (zy0 _) (zy0 _) (zx2 _)) (zx1 _) fun w S'=>AWp.of_vc [] ?_
 obtain⟨r,hr⟩:∃ r,zgc o n u=r:=⟨_,rfl⟩
 rw[hr]
 unfold zgc at hr
 obtain⟨own,hown⟩:∃ own,ypo o u=own:=⟨_,rfl⟩
 rw[hown]at hr
 simp[go_sem]
 refine AWp.scope_vc [] ?_
 simp[go_sem]
 refine cpu (ypp o u h1) ?_
 rw[hown]
 simp[go_sem]
 refine AWp.freeze 7 ?_
 refine AWp.drawText [] [9,10] [] [] rfl (by kernel_rfl) (fun d d' h=>h) ?_
 have nA:=zsy o
 have nB:=zsy n
 have lA:(zqw o).length=7:=rfl
 have lB:(zqw n).length=7:=rfl
 generalize zqw o=A at nA lA hr
 generalize zqw n=C at nB lB hr
 simp[go_sem]
 refine CalmThen.pure nA rfl ?_
 simp[go_sem,lA]
 refine CalmThen.pure nB rfl ?_
 simp[go_sem,lA,lB]
 refine AWp.freeze 9 ?_
 refine AWp.freeze 10 ?_
 refine AWp.loop_vc [] (fun m s=>∃ q:Nat,q≤7∧m=7 - q∧s.σ 2=S u∧s.σ 3=.eptr (lvsc o) 0∧s.σ 4=.eptr (lvsc n) 0∧s.σ 7=.eptr [I own] 0∧s.σ 8=.fn (.func 206) [] [.eptr [I own] 0]∧s.σ 9=.eptr (A.map I) 0∧s.σ 10=.eptr (C.map I) 0∧s.σ 31=I q∧∀ j,j < q→barB own (A.getD j 0) (C.getD j 0)=false) 7 ⟨0,by simp[go_sem]⟩ ?_
 rintro m s ⟨q,hq,rfl,i2,i3,i4,i7,i8,i9,i10,i31,hno⟩
 by_cases hlt:q < 7
 · have hint:(q:Int) < 7:=by omega
   have hq6:q≤6:=by omega
   have hw:IntKind.i64.wrap ((q:Int)+1)=(q:Int)+1:=wrapB (by omega) (by omega)
   have hA:q < A.length:=by omega
   have hC:q < C.length:=by omega
   obtain⟨x,hx⟩:∃ x,A[q]=x:=⟨_,rfl⟩
   obtain⟨y,hy⟩:∃ y,C[q]=y:=⟨_,rfl⟩
   have gx:A.getD q 0=x:=by rw[← hx];simp[List.getD,hA]
   have gy:C.getD q 0=y:=by rw[← hy];simp[List.getD,hC]
   have hpx:((A.map I).drop q).take 1=[I x]:=by
    rw[List.drop_eq_getElem_cons (by simpa using hA),List.take_succ_cons,List.take_zero]
    simp[hx]
   have hpy:((C.map I).drop q).take 1=[I y]:=by
    rw[List.drop_eq_getElem_cons (by simpa using hC),List.take_succ_cons,List.take_zero]
    simp[hy]
   simp[go_sem,i2,i3,i4,i7,i8,i9,i10,i31,hint]
   refine da ?_
   simp[go_sem,i2,i3,i4,i7,i8,i9,i10,i31,hint,hlt,hpx,hpy,hq6,lA,lB,-List.map_drop,-List.map_take]
   refine CalmThen.pure (zea own x y) rfl ?_
   cases hb:barB own x y with
   | true =>
    rw[if_pos (zip_hit hlt (by rw[gx,gy];exact hb))]at hr
    rw[← hr]
    simp[go_sem,i2,i3,i4,i7,i8,i9,i10,i31,hint]
    exact rets
   | false =>
    simp[go_sem,i2,i3,i4,i7,i8,i9,i10,i31,hint,hw]
    refine⟨7 - (q+1),by omega,q+1,by omega,rfl,by omega,fun j hj=>?_⟩
    rcases Nat.lt_succ_iff_lt_or_eq.1 hj with h|h
    · simpa using hno j h
    · subst h
      have h5:barB own (A.getD j 0) (C.getD j 0)=false:=by rw[gx,gy];exact hb
      simpa using h5
 have hint:¬ (q:Int) < 7:=by omega
 rw[zip_miss fun j hj=>hno j (by omega),if_neg (by decide)]at hr
 simp[go_sem,i2,i3,i4,i7,i8,i9,i10,i31,hint]
 clear hno hq hlt hint i9 i10 i31 lA lB nA nB
 have hKA:∀ q:Nat,q=0∨q=1∨q=2∨2 < q:=fun q=>by omega
 refine AWp.loop_vc [] (fun m s=>∃ q:Nat,q≤2∧m=2 - q∧s.σ 2=S u∧s.σ 3=.eptr (lvsc o) 0∧s.σ 4=.eptr (lvsc n) 0∧s.σ 7=.eptr [I own] 0∧s.σ 8=.fn (.func 206) [] [.eptr [I own] 0]∧s.σ 47=.agg [.lst 2 (o.kinds.map fun u=>.agg (klc u)),.lst 2 (n.kinds.map fun u=>.agg (klc u))]∧s.σ 48=I q∧(1≤q→zai (zpp o n own) o.kinds)∧(2≤q→zai (zpp o n own) n.kinds)) 2 ⟨0,by simp[go_sem,i2,i3,i4,i7,i8]⟩ ?_
 clear i2 i3 i4 i7 i8 s
 rintro m s ⟨q,hq,rfl,i2,i3,i4,i7,i8,i47,i48,hn1,hn2⟩
 have hq3:q=0∨q=1∨q=2:=by omega
 rcases hq3 with rfl|rfl|rfl
 · have hL:o.kinds.length≤1000000000:=by omega
   simp[go_sem,i2,i3,i4,i7,i8,i47,i48]
   refine AWp.loop_vc [] (fun m s=>∃ p:Nat,p≤o.kinds.length∧m=o.kinds.length - p∧s.σ 2=S u∧s.σ 3=.eptr (lvsc o) 0∧s.σ 4=.eptr (lvsc n) 0∧s.σ 7=.eptr [I own] 0∧s.σ 8=.fn (.func 206) [] [.eptr [I own] 0]∧s.σ 47=.agg [.lst 2 (o.kinds.map fun u=>.agg (klc u)),.lst 2 (n.kinds.map fun u=>.agg (klc u))]∧s.σ 48=I 0∧s.σ 51=.lst 2 (o.kinds.map fun u=>.agg (klc u))∧s.σ 52=I o.kinds.length∧s.σ 53=I p∧∀ (j:Nat) (hj:j < o.kinds.length),j < p→zpp o n own o.kinds[j]=false) o.kinds.length ⟨0,by simp[go_sem,i2,i3,i4,i7,i8,i47,i48]⟩ ?_
   clear i2 i3 i4 i7 i8 i47 i48 s
   rintro m s ⟨p,hp,rfl,i2,i3,i4,i7,i8,i47,i48,i51,i52,i53,hno⟩
   have hws:IntKind.i64.wrap ((p:Int)+1)=(p:Int)+1:=wrapB (by omega) (by omega)
   by_cases hlt:p < o.kinds.length
   · obtain⟨x,hx⟩:∃ x,o.kinds[p]=x:=⟨_,rfl⟩
     simp[go_sem,i2,i3,i4,i7,i8,i47,i48,i51,i52,i53,hlt,hx,klc]
     refine da ?_
     simp[go_sem,i2,i3,i4,i7,i8,i47,i48,i51,i52,i53,hlt,hx,klc]
     refine CalmThen.pure (zr8 o x.kind h3) rfl ?_
     simp[go_sem,i2,i3,i4,i7,i8,i47,i48,i51,i52,i53,hlt,hx,klc]
     refine CalmThen.pure (zr8 n x.kind h4) rfl ?_
     simp[go_sem,i2,i3,i4,i7,i8,i47,i48,i51,i52,i53,hlt,hx,klc]
     refine CalmThen.pure (zea own (zr7 o x.kind) (zr7 n x.kind)) rfl ?_
     have hkb:zpp o n own x=barB own (zr7 o x.kind) (zr7 n x.kind):=rfl
     cases hb:barB own (zr7 o x.kind) (zr7 n x.kind) with
     | true =>
      have ha:=zdo (p:=zpp o n own) hlt (by rw[hx,hkb,hb])
      rw[if_pos ha]at hr
      rw[← hr]
      simp[go_sem,i2,i3,i4,i7,i8,i47,i48,i51,i52,i53]
      exact rets
     | false =>
      simp[go_sem,i2,i3,i4,i7,i8,i47,i48,i51,i52,i53,hws,klc,lvsc]
      refine⟨o.kinds.length - (p+1),by omega,p+1,by omega,rfl,by omega,fun j hj hjp=>?_⟩
      rcases Nat.lt_succ_iff_lt_or_eq.1 hjp with h|rfl
      · exact hno j hj h
      · rw[hx,hkb,hb]
   · have ha:zai (zpp o n own) o.kinds:=zsr (p:=zpp o n own) fun j hj=>hno j hj (by omega)
     have w0:IntKind.i64.wrap 1=1:=by decide
     simp[go_sem,i2,i3,i4,i7,i8,i47,i48,i51,i52,i53,hlt,w0]
     exact⟨1,by omega,1,by omega,by omega,by omega,fun _=>ha,fun h=>by omega⟩
 · have hL:n.kinds.length≤1000000000:=by omega
   simp[go_sem,i2,i3,i4,i7,i8,i47,i48]
   refine AWp.loop_vc [] (fun m s=>∃ p:Nat,p≤n.kinds.length∧m=n.kinds.length - p∧s.σ 2=S u∧s.σ 3=.eptr (lvsc o) 0∧s.σ 4=.eptr (lvsc n) 0∧s.σ 7=.eptr [I own] 0∧s.σ 8=.fn (.func 206) [] [.eptr [I own] 0]∧s.σ 47=.agg [.lst 2 (o.kinds.map fun u=>.agg (klc u)),.lst 2 (n.kinds.map fun u=>.agg (klc u))]∧s.σ 48=I 1∧s.σ 51=.lst 2 (n.kinds.map fun u=>.agg (klc u))∧s.σ 52=I n.kinds.length∧s.σ 53=I p∧∀ (j:Nat) (hj:j < n.kinds.length),j < p→zpp o n own n.kinds[j]=false) n.kinds.length ⟨0,by simp[go_sem,i2,i3,i4,i7,i8,i47,i48]⟩ ?_
   clear i2 i3 i4 i7 i8 i47 i48 s
   rintro m s ⟨p,hp,rfl,i2,i3,i4,i7,i8,i47,i48,i51,i52,i53,hno⟩
   have hws:IntKind.i64.wrap ((p:Int)+1)=(p:Int)+1:=wrapB (by omega) (by omega)
   by_cases hlt:p < n.kinds.length
   · obtain⟨x,hx⟩:∃ x,n.kinds[p]=x:=⟨_,rfl⟩
     simp[go_sem,i2,i3,i4,i7,i8,i47,i48,i51,i52,i53,hlt,hx,klc]
     refine da ?_
     simp[go_sem,i2,i3,i4,i7,i8,i47,i48,i51,i52,i53,hlt,hx,klc]
     refine CalmThen.pure (zr8 o x.kind h3) rfl ?_
     simp[go_sem,i2,i3,i4,i7,i8,i47,i48,i51,i52,i53,hlt,hx,klc]
     refine CalmThen.pure (zr8 n x.kind h4) rfl ?_
     simp[go_sem,i2,i3,i4,i7,i8,i47,i48,i51,i52,i53,hlt,hx,klc]
     refine CalmThen.pure (zea own (zr7 o x.kind) (zr7 n x.kind)) rfl ?_
     have hkb:zpp o n own x=barB own (zr7 o x.kind) (zr7 n x.kind):=rfl
     cases hb:barB own (zr7 o x.kind) (zr7 n x.kind) with
     | true =>
      have ha:=zdo (p:=zpp o n own) hlt (by rw[hx,hkb,hb])
      rw[hn1 (by omega),if_neg (by decide),if_pos ha]at hr
      rw[← hr]
      simp[go_sem,i2,i3,i4,i7,i8,i47,i48,i51,i52,i53]
      exact rets
     | false =>
      simp[go_sem,i2,i3,i4,i7,i8,i47,i48,i51,i52,i53,hws,klc,lvsc]
      refine⟨n.kinds.length - (p+1),by omega,p+1,by omega,rfl,by omega,fun j hj hjp=>?_⟩
      rcases Nat.lt_succ_iff_lt_or_eq.1 hjp with h|rfl
      · exact hno j hj h
      · rw[hx,hkb,hb]
   · have ha:zai (zpp o n own) n.kinds:=zsr (p:=zpp o n own) fun j hj=>hno j hj (by omega)
     have w0:IntKind.i64.wrap 2=2:=by decide
     simp[go_sem,i2,i3,i4,i7,i8,i47,i48,i51,i52,i53,hlt,w0]
     exact⟨2,by omega,by omega,by omega,fun _=>hn1 (by omega),fun _=>ha⟩
 rw[hn1 (by omega),if_neg (by decide),hn2 (by omega),if_neg (by decide)]at hr
 simp[go_sem,i2,i3,i4,i7,i8,i47,i48]
 clear hn1 hn2 i47 i48 hq
 refine AWp.loop_vc [] (fun m s=>∃ q:Nat,q≤2∧m=2 - q∧s.σ 2=S u∧s.σ 3=.eptr (lvsc o) 0∧s.σ 4=.eptr (lvsc n) 0∧s.σ 7=.eptr [I own] 0∧s.σ 8=.fn (.func 206) [] [.eptr [I own] 0]∧s.σ 16=B false∧s.σ 73=.agg [.lst 2 (o.users.map fun u=>.agg (lvc u)),.lst 2 (n.users.map fun u=>.agg (lvc u))]∧s.σ 74=I q∧(1≤q→zai (ypm o n own u) o.users)∧(2≤q→zai (ypm o n own u) n.users)) 2 ⟨0,by simp[go_sem,i2,i3,i4,i7,i8]⟩ ?_
 clear i2 i3 i4 i7 i8 s
 rintro m s ⟨q,hq,rfl,i2,i3,i4,i7,i8,i16,i73,i74,hn1,hn2⟩
 have hq3:q=0∨q=1∨q=2:=by omega
 rcases hq3 with rfl|rfl|rfl
 · have hL:o.users.length≤1000000000:=by omega
   simp[go_sem,i2,i3,i4,i7,i8,i16,i73,i74]
   refine AWp.loop_vc [] (fun m s=>∃ p:Nat,p≤o.users.length∧m=o.users.length - p∧s.σ 2=S u∧s.σ 3=.eptr (lvsc o) 0∧s.σ 4=.eptr (lvsc n) 0∧s.σ 7=.eptr [I own] 0∧s.σ 8=.fn (.func 206) [] [.eptr [I own] 0]∧s.σ 16=B false∧s.σ 73=.agg [.lst 2 (o.users.map fun u=>.agg (lvc u)),.lst 2 (n.users.map fun u=>.agg (lvc u))]∧s.σ 74=I 0∧s.σ 77=.lst 2 (o.users.map fun u=>.agg (lvc u))∧s.σ 78=I o.users.length∧s.σ 79=I p∧∀ (j:Nat) (hj:j < o.users.length),j < p→ypm o n own u o.users[j]=false) o.users.length ⟨0,by simp[go_sem,i2,i3,i4,i7,i8,i16,i73,i74]⟩ ?_
   clear i2 i3 i4 i7 i8 i16 i73 i74 s
   rintro m s ⟨p,hp,rfl,i2,i3,i4,i7,i8,i16,i73,i74,i77,i78,i79,hno⟩
   have hws:IntKind.i64.wrap ((p:Int)+1)=(p:Int)+1:=wrapB (by omega) (by omega)
   by_cases hlt:p < o.users.length
   · obtain⟨x,hx⟩:∃ x,o.users[p]=x:=⟨_,rfl⟩
     simp[go_sem,i2,i3,i4,i7,i8,i16,i73,i74,i77,i78,i79,hlt,hx,lvc]
     refine da ?_
     simp[go_sem,i2,i3,i4,i7,i8,i16,i73,i74,i77,i78,i79,hlt,hx,lvc]
     refine CalmThen.pure (ypp o x.user h1) rfl ?_
     simp[go_sem,i2,i3,i4,i7,i8,i16,i73,i74,i77,i78,i79,hlt,hx,lvc]
     refine CalmThen.pure (ypp n x.user h2) rfl ?_
     obtain⟨was,hwas⟩:∃ was,ypo o x.user=was:=⟨_,rfl⟩
     obtain⟨now,hnow⟩:∃ now,ypo n x.user=now:=⟨_,rfl⟩
     have hkb:ypm o n own u x=(barB own was now||(was != now&&(x.user != u&&decide (own≤was)))):=by unfold ypm;rw[hwas,hnow]
     rw[hwas,hnow]
     simp[go_sem,i2,i3,i4,i7,i8,i16,i73,i74,i77,i78,i79,hlt,hx,lvc]
     refine cpu (zea own was now) ?_
     have hcase:(barB own was now=true)∨(barB own was now=false∧was=now)∨(barB own was now=false∧¬ was=now∧x.user=u)∨(barB own was now=false∧¬ was=now∧¬ x.user=u∧own≤was)∨(barB own was now=false∧¬ was=now∧¬ x.user=u∧¬ own≤was):=by
      cases barB own was now
      · by_cases c1:was=now
        · exact .inr (.inl ⟨rfl,c1⟩)
        by_cases c2:x.user=u
        · exact .inr (.inr (.inl ⟨rfl,c1,c2⟩))
        by_cases c3:own≤was
        · exact .inr (.inr (.inr (.inl ⟨rfl,c1,c2,c3⟩)))
        · exact .inr (.inr (.inr (.inr ⟨rfl,c1,c2,c3⟩)))
      · exact .inl rfl
     rcases hcase with hb|⟨hb,c1⟩|⟨hb,c1,c2⟩|⟨hb,c1,c2,c3⟩|⟨hb,c1,c2,c3⟩
     · have hub:ypm o n own u x=true:=by rw[hkb,hb];simp[]
       rw[hb]
       have ha:=zdo (p:=ypm o n own u) hlt (by rw[hx];exact hub)
       rw[if_pos ha]at hr
       rw[← hr]
       simp[go_sem,i2,i3,i4,i7,i8,i16,i73,i74,i77,i78,i79,hlt,hx,lvc]
       exact rets
     · have hub:ypm o n own u x=false:=by rw[hkb,hb];simp[c1]
       rw[hb]
       simp[go_sem,i2,i3,i4,i7,i8,i16,i73,i74,i77,i78,i79,hlt,hx,lvc,lvsc,hws,c1]
       refine⟨o.users.length - (p+1),by omega,p+1,by omega,rfl,by omega,fun j hj hjp=>?_⟩
       rcases Nat.lt_succ_iff_lt_or_eq.1 hjp with h|rfl
       · exact hno j hj h
       · rw[hx,hub]
     · have hub:ypm o n own u x=false:=by rw[hkb,hb];simp[c1,c2]
       have g1:(was==now)=false:=beq_eq_false_iff_ne.2 c1
       have g1':(was != now)=true:=bne_iff_ne.2 c1
       rw[hb]
       simp[go_sem,i2,i3,i4,i7,i8,i16,i73,i74,i77,i78,i79,hlt,hx,lvc,lvsc,hws,c1,g1,g1',c2]
       refine⟨o.users.length - (p+1),by omega,p+1,by omega,rfl,by omega,fun j hj hjp=>?_⟩
       rcases Nat.lt_succ_iff_lt_or_eq.1 hjp with h|rfl
       · exact hno j hj h
       · rw[hx,hub]
     · have hub:ypm o n own u x=true:=by rw[hkb,hb];simp[c1,c2,c3]
       have g1:(was==now)=false:=beq_eq_false_iff_ne.2 c1
       have g1':(was != now)=true:=bne_iff_ne.2 c1
       have g2:(x.user==u)=false:=beq_eq_false_iff_ne.2 c2
       have g2':(x.user != u)=true:=bne_iff_ne.2 c2
       rw[hb]
       have ha:=zdo (p:=ypm o n own u) hlt (by rw[hx];exact hub)
       rw[if_pos ha]at hr
       rw[← hr]
       simp[go_sem,i2,i3,i4,i7,i8,i16,i73,i74,i77,i78,i79,hlt,hx,lvc,c1,g1,g1',c2,g2,g2',c3]
       exact rets
     · have hub:ypm o n own u x=false:=by rw[hkb,hb];simp[c1,c2,c3]
       have g1:(was==now)=false:=beq_eq_false_iff_ne.2 c1
       have g1':(was != now)=true:=bne_iff_ne.2 c1
       have g2:(x.user==u)=false:=beq_eq_false_iff_ne.2 c2
       have g2':(x.user != u)=true:=bne_iff_ne.2 c2
       rw[hb]
       simp[go_sem,i2,i3,i4,i7,i8,i16,i73,i74,i77,i78,i79,hlt,hx,lvc,lvsc,hws,c1,g1,g1',c2,g2,g2',c3]
       refine⟨o.users.length - (p+1),by omega,p+1,by omega,rfl,by omega,fun j hj hjp=>?_⟩
       rcases Nat.lt_succ_iff_lt_or_eq.1 hjp with h|rfl
       · exact hno j hj h
       · rw[hx,hub]
   · have ha:zai (ypm o n own u) o.users:=zsr (p:=ypm o n own u) fun j hj=>hno j hj (by omega)
     have w0:IntKind.i64.wrap 1=1:=by decide
     simp[go_sem,i2,i3,i4,i7,i8,i16,i73,i74,i77,i78,i79,hlt,w0]
     exact⟨1,by omega,1,by omega,by omega,by omega,fun _=>ha,fun h=>by omega⟩
 · have hL:n.users.length≤1000000000:=by omega
   simp[go_sem,i2,i3,i4,i7,i8,i16,i73,i74]
   refine AWp.loop_vc [] (fun m s=>∃ p:Nat,p≤n.users.length∧m=n.users.length - p∧s.σ 2=S u∧s.σ 3=.eptr (lvsc o) 0∧s.σ 4=.eptr (lvsc n) 0∧s.σ 7=.eptr [I own] 0∧s.σ 8=.fn (.func 206) [] [.eptr [I own] 0]∧s.σ 16=B false∧s.σ 73=.agg [.lst 2 (o.users.map fun u=>.agg (lvc u)),.lst 2 (n.users.map fun u=>.agg (lvc u))]∧s.σ 74=I 1∧s.σ 77=.lst 2 (n.users.map fun u=>.agg (lvc u))∧s.σ 78=I n.users.length∧s.σ 79=I p∧∀ (j:Nat) (hj:j < n.users.length),j < p→ypm o n own u n.users[j]=false) n.users.length ⟨0,by simp[go_sem,i2,i3,i4,i7,i8,i16,i73,i74]⟩ ?_
   clear i2 i3 i4 i7 i8 i16 i73 i74 s
   rintro m s ⟨p,hp,rfl,i2,i3,i4,i7,i8,i16,i73,i74,i77,i78,i79,hno⟩
   have hws:IntKind.i64.wrap ((p:Int)+1)=(p:Int)+1:=wrapB (by omega) (by omega)
   by_cases hlt:p < n.users.length
   · obtain⟨x,hx⟩:∃ x,n.users[p]=x:=⟨_,rfl⟩
     simp[go_sem,i2,i3,i4,i7,i8,i16,i73,i74,i77,i78,i79,hlt,hx,lvc]
     refine da ?_
     simp[go_sem,i2,i3,i4,i7,i8,i16,i73,i74,i77,i78,i79,hlt,hx,lvc]
     refine CalmThen.pure (ypp o x.user h1) rfl ?_
     simp[go_sem,i2,i3,i4,i7,i8,i16,i73,i74,i77,i78,i79,hlt,hx,lvc]
     refine CalmThen.pure (ypp n x.user h2) rfl ?_
     obtain⟨was,hwas⟩:∃ was,ypo o x.user=was:=⟨_,rfl⟩
     obtain⟨now,hnow⟩:∃ now,ypo n x.user=now:=⟨_,rfl⟩
     have hkb:ypm o n own u x=(barB own was now||(was != now&&(x.user != u&&decide (own≤was)))):=by unfold ypm;rw[hwas,hnow]
     rw[hwas,hnow]
     simp[go_sem,i2,i3,i4,i7,i8,i16,i73,i74,i77,i78,i79,hlt,hx,lvc]
     refine cpu (zea own was now) ?_
     have hcase:(barB own was now=true)∨(barB own was now=false∧was=now)∨(barB own was now=false∧¬ was=now∧x.user=u)∨(barB own was now=false∧¬ was=now∧¬ x.user=u∧own≤was)∨(barB own was now=false∧¬ was=now∧¬ x.user=u∧¬ own≤was):=by
      cases barB own was now
      · by_cases c1:was=now
        · exact .inr (.inl ⟨rfl,c1⟩)
        by_cases c2:x.user=u
        · exact .inr (.inr (.inl ⟨rfl,c1,c2⟩))
        by_cases c3:own≤was
        · exact .inr (.inr (.inr (.inl ⟨rfl,c1,c2,c3⟩)))
        · exact .inr (.inr (.inr (.inr ⟨rfl,c1,c2,c3⟩)))
      · exact .inl rfl
     rcases hcase with hb|⟨hb,c1⟩|⟨hb,c1,c2⟩|⟨hb,c1,c2,c3⟩|⟨hb,c1,c2,c3⟩
     · have hub:ypm o n own u x=true:=by rw[hkb,hb];simp[]
       rw[hb]
       have ha:=zdo (p:=ypm o n own u) hlt (by rw[hx];exact hub)
       rw[hn1 (by omega),if_neg (by decide),if_pos ha]at hr
       rw[← hr]
       simp[go_sem,i2,i3,i4,i7,i8,i16,i73,i74,i77,i78,i79,hlt,hx,lvc]
       exact rets
     · have hub:ypm o n own u x=false:=by rw[hkb,hb];simp[c1]
       rw[hb]
       simp[go_sem,i2,i3,i4,i7,i8,i16,i73,i74,i77,i78,i79,hlt,hx,lvc,lvsc,hws,c1]
       refine⟨n.users.length - (p+1),by omega,p+1,by omega,rfl,by omega,fun j hj hjp=>?_⟩
       rcases Nat.lt_succ_iff_lt_or_eq.1 hjp with h|rfl
       · exact hno j hj h
       · rw[hx,hub]
     · have hub:ypm o n own u x=false:=by rw[hkb,hb];simp[c1,c2]
       have g1:(was==now)=false:=beq_eq_false_iff_ne.2 c1
       have g1':(was != now)=true:=bne_iff_ne.2 c1
       rw[hb]
       simp[go_sem,i2,i3,i4,i7,i8,i16,i73,i74,i77,i78,i79,hlt,hx,lvc,lvsc,hws,c1,g1,g1',c2]
       refine⟨n.users.length - (p+1),by omega,p+1,by omega,rfl,by omega,fun j hj hjp=>?_⟩
       rcases Nat.lt_succ_iff_lt_or_eq.1 hjp with h|rfl
       · exact hno j hj h
       · rw[hx,hub]
     · have hub:ypm o n own u x=true:=by rw[hkb,hb];simp[c1,c2,c3]
       have g1:(was==now)=false:=beq_eq_false_iff_ne.2 c1
       have g1':(was != now)=true:=bne_iff_ne.2 c1
       have g2:(x.user==u)=false:=beq_eq_false_iff_ne.2 c2
       have g2':(x.user != u)=true:=bne_iff_ne.2 c2
       rw[hb]
       have ha:=zdo (p:=ypm o n own u) hlt (by rw[hx];exact hub)
       rw[hn1 (by omega),if_neg (by decide),if_pos ha]at hr
       rw[← hr]
       simp[go_sem,i2,i3,i4,i7,i8,i16,i73,i74,i77,i78,i79,hlt,hx,lvc,c1,g1,g1',c2,g2,g2',c3]
       exact rets
     · have hub:ypm o n own u x=false:=by rw[hkb,hb];simp[c1,c2,c3]
       have g1:(was==now)=false:=beq_eq_false_iff_ne.2 c1
       have g1':(was != now)=true:=bne_iff_ne.2 c1
       have g2:(x.user==u)=false:=beq_eq_false_iff_ne.2 c2
       have g2':(x.user != u)=true:=bne_iff_ne.2 c2
       rw[hb]
       simp[go_sem,i2,i3,i4,i7,i8,i16,i73,i74,i77,i78,i79,hlt,hx,lvc,lvsc,hws,c1,g1,g1',c2,g2,g2',c3]
       refine⟨n.users.length - (p+1),by omega,p+1,by omega,rfl,by omega,fun j hj hjp=>?_⟩
       rcases Nat.lt_succ_iff_lt_or_eq.1 hjp with h|rfl
       · exact hno j hj h
       · rw[hx,hub]
   · have ha:zai (ypm o n own u) n.users:=zsr (p:=ypm o n own u) fun j hj=>hno j hj (by omega)
     have w0:IntKind.i64.wrap 2=2:=by decide
     simp[go_sem,i2,i3,i4,i7,i8,i16,i73,i74,i77,i78,i79,hlt,w0]
     exact⟨2,by omega,by omega,by omega,fun _=>hn1 (by omega),fun _=>ha⟩
 rw[hn1 (by omega),if_neg (by decide),hn2 (by omega),if_neg (by decide)]at hr
 rw[← hr]
 simp[go_sem,i2,i3,i4,i7,i8,i16,i73,i74]
 exact rets
def PostD (rvs:List ResultVar):Option Int→Exit→St→Prop
 | none=>PostR prog rvs (.tup [])
 | some n=>PostP (vd n)
theorem zam (rvs:List ResultVar):PostD rvs none=PostR prog rvs (.tup []):=rfl
theorem zan (rvs:List ResultVar) (n:Int):PostD rvs (some n)=PostP (vd n):=rfl
theorem zap (x:Value) (chain:List PanicEntry) (st:St):PostP x (.panic chain) st=(chain=[{ v:=x,recovered:=false }]):=rfl
def DC (f:FuncId) (args:List AV):Option Int→Prop
 | none=>AC prog f args (.tup [])
 | some n=>PC prog f args (vd n)
theorem DC.of_body {f:FuncId} {fn:Func} {c:Code} {args:List AV} {o:Option Int} {n:Nat} {rvs:List ResultVar} (hf:prog.funcs[f]? = some fn) (hb:fn.body=some c) (hname:(fn.name == "runtime.NumGoroutine")=false) (hnt:fn.ntmps=n) (hrv:fn.results.toList=rvs) (hn:args.length≤n)
 (hargs:∀ p∈args,Pure p) (h:∀ (w:World) (S:Nat→Prop),AWp ⟨prog,w,S,n,none,fun d=>d,none⟩ c (PostD rvs o) (ykc args)):DC f args o:=by
 cases o with
 | none=>exact AC.of_body hf hb hname hnt hrv hn hargs (fun r hr=>by cases hr) h
 | some n=>exact PC.of_body hf hb hname hnt hn hargs h
theorem zhz {g:FuncId} {first cap:List AV} {o:Option Int} (hp:Pure (.fn (.func g) first cap)) (h:DC g (first++cap) o):AC prog 82 [.fn (.func g) first cap] (I (o.getD 0)):=by
 cases o with
 | none=>exact zhx hp h
 | some n=>exact zh1 hp h
structure AuthOk (l:List Evt):Prop where
 sm:∀ e∈l,SmE e
 md:∀ e∈l,Mod e
 len:l.length≤1000000
def zky (e:Evt) (l:List Evt):Bool:=match zhl l with
 | none=>false
 | some c=>if e.prev=[c.id]∧e.sender=c.sender∧e.key=c.sender∧e.content.n=3 then !(l.any (isMem e.key)) else false
theorem zkx (e:Evt) (l:List Evt) (hl:AuthOk l):AC prog 131 [ev e,evs l] (B (zky e l)):=by
 refine AC.ob func131 ntmps131 results131 (zzj (zyh _) (zyk _)) (zx0 _) fun w S'=>AWp.of_vc [] ?_
 obtain⟨r,hr⟩:∃ r,zky e l=r:=⟨_,rfl⟩
 rw[hr]
 unfold zky at hr
 simp[go_sem]
 refine cpu (zhm l (by have:=hl.len;omega)) ?_
 cases hc:zhl l with
 | none =>
  rw[hc]at hr
  simp only at hr
  rw[← hr]
  simp[go_sem]
  refine da ?_
  simp[go_sem]
  exact rets
 | some c =>
  rw[hc]at hr
  simp only at hr
  simp[go_sem]
  refine da ?_
  have hlen:=hl.len
  cases hp:e.prev with
  | nil =>
   rw[if_neg (fun h=>by rw[hp]at h;exact absurd h.1 (by simp))]at hr
   rw[← hr]
   simp[go_sem,hp]
   exact rets
  | cons p ps =>
  cases ps with
  | cons p2 ps =>
   rw[if_neg (fun h=>by rw[hp]at h;exact absurd h.1 (by simp))]at hr
   rw[← hr]
   have g1:¬ ((ps.length:Int)+1+1=1):=by omega
   have g2:((ps.length:Int)+1+1==1)=false:=beq_eq_false_iff_ne.2 g1
   have g3:((ps.length:Int)+1+1 != 1)=true:=bne_iff_ne.2 g1
   simp[go_sem,hp,g1,g2,g3]
   exact rets
  | nil =>
  by_cases c1:p=c.id
  case neg =>
   rw[if_neg (fun h=>by rw[hp]at h;exact c1 (by simpa using h.1))]at hr
   rw[← hr]
   have g1:(p==c.id)=false:=beq_eq_false_iff_ne.2 c1
   have g1':(p != c.id)=true:=bne_iff_ne.2 c1
   simp[go_sem,hp,c1,g1,g1']
   exact rets
  by_cases c2:e.sender=c.sender
  case neg =>
   rw[if_neg (fun h=>c2 h.2.1)]at hr
   rw[← hr]
   have g1:(e.sender==c.sender)=false:=beq_eq_false_iff_ne.2 c2
   have g1':(e.sender != c.sender)=true:=bne_iff_ne.2 c2
   simp[go_sem,hp,c1,c2,g1,g1']
   exact rets
  by_cases c3:e.key=c.sender
  case neg =>
   rw[if_neg (fun h=>c3 h.2.2.1)]at hr
   rw[← hr]
   have g1:(e.key==c.sender)=false:=beq_eq_false_iff_ne.2 c3
   have g1':(e.key != c.sender)=true:=bne_iff_ne.2 c3
   simp[go_sem,hp,c1,c2,c3,g1,g1']
   exact rets
  by_cases c4:e.content.n=3
  case neg =>
   rw[if_neg (fun h=>c4 h.2.2.2)]at hr
   rw[← hr]
   have g1:(e.content.n==3)=false:=beq_eq_false_iff_ne.2 c4
   have g1':(e.content.n != 3)=true:=bne_iff_ne.2 c4
   simp[go_sem,hp,c1,c2,c3,c4,g1,g1']
   exact rets
  rw[if_pos ⟨by rw[hp,c1],c2,c3,c4⟩]at hr
  simp[go_sem,hp,c1,c2,c3,c4]
  refine AWp.loop_vc [] (fun m s=>∃ q:Nat,q≤l.length∧m=l.length - q∧s.σ 2=.eptr (evc e) 0∧s.σ 51=evs l∧s.σ 52=I l.length∧s.σ 53=I q∧∀ (j:Nat) (hj:j < l.length),j < q→isMem e.key l[j]=false) l.length ⟨0,by simp[go_sem]⟩ ?_
  rintro m s ⟨q,hq,rfl,h2,h51,h52,h53,hno⟩
  have hws:IntKind.i64.wrap ((q:Int)+1)=(q:Int)+1:=wrapB (by omega) (by omega)
  by_cases hlt:q < l.length
  · obtain⟨x,hx⟩:∃ x,l[q]=x:=⟨_,rfl⟩
    by_cases hk:x.kind=2
    · by_cases hy:x.key=e.key
      · have ha:=zdo (p:=isMem e.key) hlt (by rw[hx];simp[isMem,hk,hy])
        rw[ha]at hr
        rw[← hr]
        simp[go_sem,h2,h51,h52,h53,hlt,hx,hk,hy]
        exact rets
      · have hy2:(x.key==e.key)=false:=beq_eq_false_iff_ne.2 hy
        simp[go_sem,h2,h51,h52,h53,hlt,hx,hk,hy,hy2,hws]
        refine⟨l.length - (q+1),by omega,q+1,by omega,rfl,rfl,fun j hj hjq=>?_⟩
        rcases Nat.lt_succ_iff_lt_or_eq.1 hjq with h|rfl
        · exact hno j hj h
        · rw[hx];simp[isMem,hy]
    · have hk2:(x.kind==2)=false:=beq_eq_false_iff_ne.2 hk
      simp[go_sem,h2,h51,h52,h53,hlt,hx,hk,hk2,hws]
      refine⟨l.length - (q+1),by omega,q+1,by omega,rfl,rfl,fun j hj hjq=>?_⟩
      rcases Nat.lt_succ_iff_lt_or_eq.1 hjq with h|rfl
      · exact hno j hj h
      · rw[hx];simp[isMem,hk]
  · rw[zsr (p:=isMem e.key) fun j hj=>hno j hj (by omega)]at hr
    rw[← hr]
    simp[go_sem,h2,h51,h52,h53,hlt]
    exact rets
def ownI (m now:Int) (l:List Evt):Int:=if m=3 then joinI (ygw l) now else if m=2 then zpt (ygw l) now else 0
theorem own_ac (m now:Int) (l:List Evt) (hl:AuthOk l):AC prog 134 [I m,I now,evs l] (I (ownI m now l)):=by
 refine AC.ob func134 ntmps134 results134 (zzk (zx1 _) (zx1 _) (zyk _)) (zx1 _) fun w S'=>AWp.of_vc [] ?_
 unfold ownI
 simp[go_sem]
 refine cpu (ygy l hl.sm (by have:=hl.len;omega)) ?_
 unfold ygu
 by_cases h3:m=3
 · rw[if_pos h3]
   simp[go_sem,h3]
   refine cpu (join_ac (ygw l) now) ?_
   simp[go_sem]
   exact rets
 rw[if_neg h3]
 by_cases h2:m=2
 · rw[if_pos h2]
   simp[go_sem,h3,h2]
   refine cpu (knock_ac (ygw l) now) ?_
   simp[go_sem]
   exact rets
 rw[if_neg h2]
 simp[go_sem,h3,h2]
 exact rets
def zqk (e:Evt) (l:List Evt):Int:=if ypo (lvOf l) e.sender < zr7 (lvOf l) e.kind then 20 else if e.kind=3 then zgc (lvOf l) e.content.levels e.sender else 0
theorem zqx {l:List Evt} (hl:∀ e∈l,Mod e):(lvOf l).kinds.length≤10000000:=by
 unfold lvOf
 cases hf:l.find? (fun e=>e.kind==3) with
 | some e =>
  have h:=(hl e (List.mem_of_find?_eq_some hf)).a5
  simp only
  omega
 | none=>simp[defLv]
theorem level_ac (e:Evt) (l:List Evt) (hl:AuthOk l) (he:Mod e):AC prog 89 [ev e,evs l] (I (zqk e l)):=by
 refine AC.ob func89 ntmps89 results89 (zzj (zyh _) (zyk _)) (zx1 _) fun w S'=>AWp.of_vc [] ?_
 have hu:=zqy hl.md
 have hk:=zqx hl.md
 have a4:=he.a4
 have a5:=he.a5
 unfold zqk
 simp[go_sem]
 refine cpu (zq0 l hl.md) ?_
 unfold lvT
 generalize lvOf l=v at hu hk ⊢
 simp[go_sem]
 refine da ?_
 simp[go_sem]
 refine CalmThen.pure (ypp v e.sender (by omega)) rfl ?_
 simp[go_sem]
 refine CalmThen.pure (zr8 v e.kind (by omega)) rfl ?_
 by_cases c1:ypo v e.sender < zr7 v e.kind
 · rw[if_pos c1]
   simp[go_sem,c1]
   exact rets
 rw[if_neg c1]
 by_cases c2:e.kind=3
 · rw[if_pos c2]
   have c13:¬ ypo v e.sender < zr7 v 3:=by rw[← c2];exact c1
   simp[go_sem,c1,c13,c2]
   refine CallSem.pure (zgd v e.content.levels e.sender (by omega) (by omega) (by omega) (by omega)) (by simp[go_sem,ctc_7,zho]) ?_
   simp[go_sem]
   exact rets
 · rw[if_neg c2]
   simp[go_sem,c1,c2]
   exact rets
end Go.Proofs.YthjmjdleecmaeaaGreat
