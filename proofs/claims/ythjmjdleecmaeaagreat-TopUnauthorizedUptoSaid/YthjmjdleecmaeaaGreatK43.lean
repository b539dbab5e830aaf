/- Several texts of the proof in one: B51, B47. No condition. -/
import Derived.Test.YthjmjdleecmaeaaGreatK42
set_option linter.unusedSimpArgs false
set_option linter.unusedVariables false
set_option maxHeartbeats 4000000
set_option maxRecDepth 8000
namespace Go.Proofs.YthjmjdleecmaeaaGreat
open Go Go.Abs Go.Proofs.Tryz
noncomputable def fR (q:Nat):RoomD:=recvAll (room0 frm) (fMade.take q)
theorem fresh0:(recvR (fR 0) fE0).2=(4,0):=by decide +kernel
theorem fresh1:(recvR (fR 1) fE1).2=(4,0):=by decide +kernel
theorem fresh2:(recvR (fR 2) fE2).2=(4,0):=by decide +kernel
theorem fresh3:(recvR (fR 3) fE3).2=(4,0):=by decide +kernel
theorem fresh4:(recvR (fR 4) fE4).2=(4,0):=by decide +kernel
theorem fresh5:(fR 5).state.length=5∧(fR 5).heads.length=1:=by decide +kernel
theorem zsa:newR frm=(room0 frm,0):=by
 unfold newR
 rw[if_pos (by decide +kernel)]
def fE (q:Nat):Evt:=fMade.getD q evZ
theorem fresh_at (q:Nat) (hq:q < 5):(recvR (fR q) (fE q)).2=(4,0):=by
 match q,hq with
 | 0,_=>exact fresh0
 | 1,_=>exact fresh1
 | 2,_=>exact fresh2
 | 3,_=>exact fresh3
 | 4,_=>exact fresh4
theorem zjn:∀ e∈fMade,kept e=e:=by decide +kernel
theorem zjp:Pool fMade :=
 ⟨by decide,fun e he=>(ztk (zjo e he)).1,fun e he=>(ztk (zjo e he)).2.1,fun e he=>by have:=(ztk (zjo e he)).2.2.1;omega,fun e he=>by have:=(ztk (zjo e he)).2.2.2;omega⟩
theorem zjm:∀ e∈fMade,yp6 (kept e)=0→kept e∈fMade:=fun e he _=>by rw[zjn e he];exact he
theorem fR_in (q:Nat) (hq:q≤5):RoomIn fMade q (fR q):=by
 have:=RoomIn.recvAll zjp (fMade.take q) (RoomIn.new frm) fun e hx=>zjm e (List.mem_of_mem_take hx)
 have hl:fMade.length=5:=rfl
 rw[List.length_take,hl,Nat.min_eq_left hq,Nat.zero_add]at this
 exact this
noncomputable def zl8:AV:=.tup [room (fR 5),B true]
theorem zxa:PureR zl8:=by
 intro r hr
 simp only[List.mem_cons,List.not_mem_nil,or_false]at hr
 rcases hr with rfl|rfl
 · exact zy8 _
 · exact zx0 _
theorem fresh_ac  : AC prog 12 [] (zl8):=by
 refine AC.ob func12 ntmps12 results12 (pures0) (zxa) fun w S'=>AWp.of_vc [] ?_
 have hroom:=broom_ac
 unfold zq1 at hroom
 have hnew:=zr9 frm (by decide)
 rw[zsa]at hnew
 unfold roomI room roomC rowsA at hnew
 obtain⟨M,hM⟩:∃ M,fMade=M:=⟨_,rfl⟩
 have hMl:M.length=5:=by rw[← hM];rfl
 rw[hM]at hroom
 simp[go_sem]
 refine cpu hroom ?_
 simp[go_sem]
 refine cpu hnew ?_
 simp[go_sem,room0]
 refine AWp.loop_vc [] (fun m s=>∃ q:Nat,q≤5∧m=5 - q∧s.σ 2=evs M∧s.σ 3=I 0∧s.σ 5=I 0∧s.σ 6=I q∧s.σ 0=.rptr 0 (s.ver 0) 0 0∧s.h 0=.box (roomZ [])∧s.σ 4=.rptr 4 (s.ver 4) 0 0∧s.h 4=.box (roomC (fR q))) 5 ⟨0,by simp[go_sem,roomZ,roomC,rowsA,fR,recvAll,room0]⟩ ?_
 rintro m s ⟨q,hq,rfl,i2,i3,i5,i6,i0,k0,i4,k4⟩
 have hws:IntKind.i64.wrap ((q:Int)+1)=(q:Int)+1:=wrapB (by omega) (by omega)
 by_cases hlt:q < 5
 · have hlM:q < M.length:=by omega
   have hlI:(q:Int) < 5:=by omega
   obtain⟨x,hx⟩:∃ x,M[q]=x:=⟨_,rfl⟩
   have hxm:x∈fMade:=by rw[hM,← hx];exact List.getElem_mem hlM
   have hxe:fE q=x:=by unfold fE;rw[hM,← hx];simp[List.getD,hlM]
   have hat:=fresh_at q hlt
   rw[hxe]at hat
   have hsu:fR (q+1)=(recvR (fR q) x).1:=by
    unfold fR
    rw[hM,yfx (room0 frm) hlM,hx]
   have hrec:=yfu fMade zjp q (by omega) (fR q) (fR_in q hq) x (ztk (zjo x hxm)).1 (zjm x hxm)
   obtain⟨R,hR⟩:∃ R,fR q=R:=⟨_,rfl⟩
   rw[hR]at k4 hat hsu hrec
   obtain⟨R1,hR1⟩:∃ R1,recvR R x=R1:=⟨_,rfl⟩
   rw[hR1]at hrec hsu hat
   unfold yfw room roomC rowsA at hrec
   rw[hat]at hrec
   unfold roomC rowsA at k4
   unfold roomZ at k0
   simp[go_sem,i2,i3,i5,i6,i0,k0,i4,k4,hlt,hlI,hx,hMl]
   refine AWp.drawDeep [] [7] [] [] [0,1,2,3,4,5,6,7,8,9,10,11,12,13] rfl (by kernel_rfl) (fun d d' h=>h) rfl ?_
   simp[go_sem,i2,i3,i5,i6,i0,k0,i4,k4,hlt,hlI,hlM,hx,hMl]
   refine⟨zjb x,?_⟩
   refine CalmThen.pure hrec rfl ?_
   simp[go_sem,i2,i3,i5,i6,i0,k0,i4,k4,hlt,hlI,hlM,hx,hMl,hws]
   exact⟨5 - (q+1),by omega,q+1,by omega,rfl,by omega,rfl,by rw[hsu];rfl⟩
 · have hqe:q=5:=by omega
   subst hqe
   unfold roomC rowsA at k4
   unfold roomZ at k0
   simp[go_sem,i2,i3,i5,i6,i0,k0,i4,k4,hMl]
   refine PostR.ret ?_
   simp[go_sem,i0,zl8,room,roomC,rowsA]
theorem zb6  : AC prog 6 [] (B true):=by
 refine AC.ob func6 ntmps6 results6 (pures0) (zx0 _) fun w S'=>AWp.of_vc [] ?_
 have hfr:=fresh_ac
 unfold zl8 room roomC rowsA at hfr
 obtain⟨h1,h2⟩:=fresh5
 obtain⟨R,hR⟩:∃ R,fR 5=R:=⟨_,rfl⟩
 rw[hR]at hfr h1 h2
 simp[go_sem]
 refine cpu hfr ?_
 simp[go_sem,h1,h2]
 exact rets
def hitB (id:Int) (n:Int):Bool:=n==id
def refF (id:Int) (f:Evt):Bool:=f.prev.any (hitB id)||f.auth.any (hitB id)
def refB (r:RoomD) (id:Int):Bool:=(r.events++r.waiting).any (refF id)
theorem yfz (r:RoomD) (id:Int) (h1:r.events.length≤1000) (h2:r.waiting.length≤1000) (hs:∀ x∈r.events++r.waiting,x.prev.length≤1000∧x.auth.length≤1000):AC prog 8 [room r,I id] (B (refB r id)):=by
 refine AC.ob func8 ntmps8 results8 (zzj (zy8 _) (zx1 _)) (zx0 _) fun w S'=>AWp.of_vc [1000002] ?_
 obtain⟨T,hT⟩:∃ T,refB r id=T:=⟨_,rfl⟩
 rw[hT]
 unfold refB at hT
 simp[go_sem,room,roomC,rowsA]
 refine AWp.drawDeep [9] [9] [] [] [1,2,4,5,0,3,6,7] rfl (by kernel_rfl) (fun d d' h=>h) rfl ?_
 simp[go_sem]
 refine⟨⟨by omega,by omega⟩,⟨by omega,by omega⟩,?_⟩
 refine AWp.freeze 9 ?_
 refine AWp.region [] ?_
 have hm:List.map ev r.events++List.map ev r.waiting=List.map ev (r.events++r.waiting):=(List.map_append ..).symm
 have hAl:(r.events++r.waiting).length≤2000:=by rw[List.length_append];omega
 obtain⟨A,hA⟩:∃ A,r.events++r.waiting=A:=⟨_,rfl⟩
 rw[hA]at hm hAl hs hT
 simp[go_sem,hm]
 refine AWp.loop_vc [] (fun m s=>∃ q:Nat,q≤A.length∧m=A.length - q∧s.σ 1=I id∧s.σ 5=evs A∧s.σ 6=I q∧∀ (j:Nat) (hj:j < A.length),j < q→refF id A[j]=false) A.length ⟨0,by simp[go_sem,evs]⟩ ?_
 rintro m s ⟨q,hq,rfl,i1,i5,i6,hno⟩
 have hws:IntKind.i64.wrap ((q:Int)+1)=(q:Int)+1:=wrapB (by omega) (by omega)
 by_cases hlt:q < A.length
 · obtain⟨x,hx⟩:∃ x,A[q]=x:=⟨_,rfl⟩
   obtain⟨hp1,hp2⟩:=hs x (by rw[← hx];exact List.getElem_mem hlt)
   have hfound:x.prev.any (hitB id)=true∨x.auth.any (hitB id)=true→T=true:=fun h=>by
    rw[← hT]
    exact List.any_eq_true.2 ⟨x,by rw[← hx];exact List.getElem_mem hlt,by unfold refF;rcases h with h|h<;>simp[h]⟩
   simp[go_sem,i1,i5,i6,hlt,hx]
   refine AWp.loop_vc [] (fun m s=>∃ p:Nat,p≤x.prev.length∧m=x.prev.length - p∧s.σ 1=I id∧s.σ 5=evs A∧s.σ 6=I q∧s.σ 7=I p∧∀ (j:Nat) (hj:j < x.prev.length),j < p→hitB id x.prev[j]=false) x.prev.length ⟨0,by simp[go_sem,i1,i5,i6]⟩ ?_
   clear i1 i5 i6 s
   rintro m s ⟨p,hp,rfl,i1,i5,i6,i7,hnop⟩
   have hwp:IntKind.i64.wrap ((p:Int)+1)=(p:Int)+1:=wrapB (by omega) (by omega)
   by_cases hlp:p < x.prev.length
   · obtain⟨n,hn⟩:∃ n,x.prev[p]=n:=⟨_,rfl⟩
     by_cases c1:n=id
     · have hT1:=hfound (.inl (List.any_eq_true.2 ⟨n,by rw[← hn];exact List.getElem_mem hlp,by simp[hitB,c1]⟩))
       simp[go_sem,i1,i5,i6,i7,hlt,hx,hlp,hn,c1]
       refine PostR.ret ?_
       simp[go_sem,hT1]
     · have c2:(n==id)=false:=beq_eq_false_iff_ne.2 c1
       simp[go_sem,i1,i5,i6,i7,hlt,hx,hlp,hn,c1,c2,hwp]
       refine⟨x.prev.length - (p+1),by omega,p+1,by omega,rfl,by omega,fun j hj hjp=>?_⟩
       rcases Nat.lt_succ_iff_lt_or_eq.1 hjp with h|rfl
       · exact hnop j hj h
       · rw[hn];exact c2
   · have hP:x.prev.any (hitB id)=false:=zsr fun j hj=>hnop j hj (by omega)
     simp[go_sem,i1,i5,i6,i7,hlt,hx,hlp]
     clear hnop hlp hwp
     refine AWp.loop_vc [] (fun m s=>∃ p:Nat,p≤x.auth.length∧m=x.auth.length - p∧s.σ 1=I id∧s.σ 5=evs A∧s.σ 6=I q∧s.σ 8=I p∧∀ (j:Nat) (hj:j < x.auth.length),j < p→hitB id x.auth[j]=false) x.auth.length ⟨0,by simp[go_sem,i1,i5,i6]⟩ ?_
     clear i1 i5 i6 i7 s
     rintro m s ⟨p,hp,rfl,i1,i5,i6,i8,hnop⟩
     have hwp:IntKind.i64.wrap ((p:Int)+1)=(p:Int)+1:=wrapB (by omega) (by omega)
     by_cases hlp:p < x.auth.length
     · obtain⟨n,hn⟩:∃ n,x.auth[p]=n:=⟨_,rfl⟩
       by_cases c1:n=id
       · have hT1:=hfound (.inr (List.any_eq_true.2 ⟨n,by rw[← hn];exact List.getElem_mem hlp,by simp[hitB,c1]⟩))
         simp[go_sem,i1,i5,i6,i8,hlt,hx,hlp,hn,c1]
         refine PostR.ret ?_
         simp[go_sem,hT1]
       · have c2:(n==id)=false:=beq_eq_false_iff_ne.2 c1
         simp[go_sem,i1,i5,i6,i8,hlt,hx,hlp,hn,c1,c2,hwp]
         refine⟨x.auth.length - (p+1),by omega,p+1,by omega,rfl,by omega,fun j hj hjp=>?_⟩
         rcases Nat.lt_succ_iff_lt_or_eq.1 hjp with h|rfl
         · exact hnop j hj h
         · rw[hn];exact c2
     · have hQ:x.auth.any (hitB id)=false:=zsr fun j hj=>hnop j hj (by omega)
       simp[go_sem,i1,i5,i6,i8,hlt,hx,hlp,hws]
       refine⟨A.length - (q+1),by omega,q+1,by omega,rfl,by omega,fun j hj hjq=>?_⟩
       rcases Nat.lt_succ_iff_lt_or_eq.1 hjq with h|rfl
       · exact hno j hj h
       · rw[hx];unfold refF;rw[hP,hQ];rfl
 · have hT0:T=false:=by rw[← hT];exact zsr fun j hj=>hno j hj (by omega)
   simp[go_sem,i1,i5,i6,hlt]
   refine PostR.ret ?_
   simp[go_sem,hT0]
end Go.Proofs.YthjmjdleecmaeaaGreat
