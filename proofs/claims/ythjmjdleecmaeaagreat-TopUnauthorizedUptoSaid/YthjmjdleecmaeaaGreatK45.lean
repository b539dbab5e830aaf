/- Several texts of the proof in one: B54. No condition. -/
import Derived.Test.YthjmjdleecmaeaaGreatK44
set_option linter.unusedSimpArgs false
set_option linter.unusedVariables false
set_option maxHeartbeats 4000000
set_option maxRecDepth 8000
namespace Go.Proofs.YthjmjdleecmaeaaGreat
open Go Go.Abs Go.Proofs.Tryz
theorem noref_of {id:Int} {f:Evt} (h:refF id f=false):noref id f=true:=by
 unfold refF at h
 rw[Bool.or_eq_false_iff]at h
 refine noref_iff.2 ⟨fun n hn he=>?_,fun n hn he=>?_⟩
 · have:=List.any_eq_false.1 h.1 n hn
   exact this (by unfold hitB;simp[he])
 · have:=List.any_eq_false.1 h.2 n hn
   exact this (by unfold hitB;simp[he])
theorem zkf {p:Evt→Bool} {l:List Evt} {q:Nat} (h:q < l.length):(l.take (q+1)).filter p=(l.take q).filter p++if p l[q]=true then [l[q]] else []:=by
 rw[List.take_succ_eq_append_getElem h,List.filter_append,List.filter_cons,List.filter_nil]
theorem ypf (l:List Evt) (hl:l.length≤10000000) (hsl:∀ e∈l,SmE e) (hml:∀ e∈l,Mod e):AC prog 3 [evs l] (B true):=by
 refine AC.ob func3 ntmps3 results3 (zzi (zyk _)) (zx0 _) fun w S'=>AWp.of_vc [1000009,1000015] ?_
 have hal:=zb6
 by_cases g1:12 < l.length
 · have g1I:(12:Int) < l.length:=by omega
   simp[go_sem,g1I]
   refine cpu hal ?_
   simp[go_sem]
   exact rets
 have g1I:¬ (12:Int) < l.length:=by omega
 cases hlc:l with
 | nil =>
  simp[go_sem]
  refine cpu hal ?_
  simp[go_sem]
  exact rets
 | cons a0 ar =>
  rw[← hlc]
  have g3:¬ l=[]:=by rw[hlc];exact fun h=>by cases h
  have g3I:¬ (l.length:Int)=0:=by rw[hlc];simp;omega
  have g3B:((l.length:Int)==0)=false:=beq_eq_false_iff_ne.2 g3I
  simp[go_sem,g1I,g3,g3I,g3B]
  have hap:=apart_ac l (by omega) hsl
  obtain⟨r,hr⟩:∃ r,zdt l=r:=⟨_,rfl⟩
  rw[hr]at hap
  refine cpu hap ?_
  cases r with
  | false =>
   simp[go_sem]
   refine cpu hal ?_
   simp[go_sem]
   exact rets
  | true =>
   have h0l:0 < l.length:=by rw[hlc];simp
   have hx0:l[0]=a0:=by simp[hlc]
   have ha0:a0∈l:=by rw[hlc];exact List.mem_cons_self ..
   have hrl:a0.room.length≤1000000000000:=by
    have:=hsl a0 ha0
    unfold SmE bkE at this
    omega
   have hP:=zwe (l:=l) (by omega) hsl hml
   have hxa:=yfv (zv9 l) hP a0.room hrl l (by omega) hsl (fun e he hv=>zwb he hv)
   obtain⟨b0,hb0⟩:=zsb a0.room
   have hinX:=RoomIn.recvAll hP l (RoomIn.new (U:=zv9 l) b0) fun e he hv=>zwb he hv
   have hU:(zv9 l).length≤24:=by
    have:=zwc l
    omega
   have hA:=zwa hr
   have hun:=fun (w:RowD)=>ype hU hA b0 l (fun e he hv=>zwb he hv) (w:=w)
   have hxk:=fun (K:List Evt) (hK:∀ e∈K,e∈l) (hKl:K.length≤l.length)=>yfv (zv9 l) hP a0.room hrl K (by omega) (fun e he=>hsl e (hK e he)) (fun e he hv=>zwb (hK e he) hv)
   rw[hb0]at hxa
   simp only[hb0]at hxk
   obtain⟨x,hx⟩:∃ x,recvAll (room0 b0) l=x:=⟨_,rfl⟩
   rw[hx]at hxa hinX
   simp only[hx]at hun
   have hrws:=hinX.rows
   have hXl:=(hinX.ok hP (by omega)).good.fit.len
   have hrf:=fun (id:Int)=>yfz x id (by omega) (by have:=hinX.rows;omega) (fun f hf=>by
    have hfU:f∈zv9 l:=by
     rcases List.mem_append.1 hf with h|h
     · exact hinX.ev f h
     · exact hinX.wt f h
    have:=hP.pr f hfU
    have:=hP.au f hfU
    omega)
   unfold room roomC rowsA at hxa
   simp[go_sem,h0l,hx0]
   refine cpu hxa ?_
   simp[go_sem]
   refine AWp.loop_vc [1000015] (fun m s=>∃ i:Nat,i≤x.rows.length∧m=x.rows.length - i∧s.σ 0=evs l∧s.σ 3=.rptr 3 (s.ver 3) 0 0∧s.h 3=.box (roomC x)∧s.σ 4=I i) x.rows.length ⟨0,by simp[go_sem,roomC,rowsA]⟩ ?_
   rintro m s ⟨i,hi,rfl,i0,i3,k3,i4⟩
   unfold roomC rowsA at k3
   have hwi:IntKind.i64.wrap ((i:Int)+1)=(i:Int)+1:=wrapB (by omega) (by omega)
   by_cases hlt:i < x.rows.length
   case neg =>
    simp[go_sem,i0,i3,k3,i4,hlt]
    refine cpu hal ?_
    simp[go_sem]
    exact rets
   obtain⟨wr,hwr⟩:∃ wr,x.rows[i]=wr:=⟨_,rfl⟩
   have hwm:wr∈x.rows:=by rw[← hwr];exact List.getElem_mem hlt
   by_cases c1:wr.status=2
   case neg =>
    have c2:(wr.status==2)=false:=beq_eq_false_iff_ne.2 c1
    have c3:(wr.status != 2)=true:=bne_iff_ne.2 c1
    simp[go_sem,i0,i3,k3,i4,hlt,hwr,rowC,c1,c2,c3,hwi]
    exact⟨x.rows.length - (i+1),by omega,i+1,by omega,rfl,rfl,by omega⟩
   have hrfw:=hrf wr.id
   unfold room roomC rowsA at hrfw
   obtain⟨rf,hrfe⟩:∃ rf,refB x wr.id=rf:=⟨_,rfl⟩
   rw[hrfe]at hrfw
   simp[go_sem,i0,i3,k3,i4,hlt,hwr,rowC,c1]
   refine cpu hrfw ?_
   cases rf with
   | true =>
    simp[go_sem,i0,i3,k3,i4,hlt,hwr,hwi]
    exact⟨x.rows.length - (i+1),by omega,i+1,by omega,rfl,rfl,by omega⟩
   | false =>
    have hnr:∀ f∈x.events,noref wr.id f=true:=fun f hf=>by
     unfold refB at hrfe
     exact noref_of (by have:=List.any_eq_false.1 hrfe f (List.mem_append_left _ hf);simpa using this)
    obtain⟨u1,u2,u3⟩:=hun wr hwm c1 hnr
    simp[go_sem,i0,i3,k3,i4,hlt,hwr]
    refine AWp.ownNil 6 45 29 (by simp[go_sem]) ?_
    refine AWp.loop_vc [1000015] (fun m s=>∃ n v:Nat,n≤l.length∧m=l.length - n∧s.σ 0=evs l∧s.σ 3=.rptr 3 (s.ver 3) 0 0∧s.h 3=.box (roomC x)∧s.σ 4=I i∧s.σ 5=I wr.id∧s.σ 6=.ref 6 v∧s.ver 6=v∧s.h 6=.arr 45 29 (((l.take n).filter fun e=>e.id != wr.id).map ev)∧s.σ 7=I n) l.length ⟨0,by simp[go_sem,i0,i3,k3,i4,hlt,hwr,roomC,rowsA]⟩ ?_
    clear i0 i3 k3 i4 s
    rintro m s ⟨n,v,hn,rfl,i0,i3,k3,i4,i5,i6,jv,jh,i7⟩
    unfold roomC rowsA at k3
    have hwn:IntKind.i64.wrap ((n:Int)+1)=(n:Int)+1:=wrapB (by omega) (by omega)
    by_cases hln:n < l.length
    · obtain⟨e,he⟩:∃ e,l[n]=e:=⟨_,rfl⟩
      have hfu:=zkf (p:=fun e:Evt=>e.id != wr.id) hln
      rw[he]at hfu
      have hKl:((l.take n).filter fun e=>e.id != wr.id).length≤12:=by
       have h1:=List.length_filter_le (fun e:Evt=>e.id != wr.id) (l.take n)
       rw[List.length_take]at h1
       omega
      obtain⟨K,hK⟩:∃ K,(l.take n).filter (fun e=>e.id != wr.id)=K:=⟨_,rfl⟩
      rw[hK]at hfu jh hKl
      by_cases c4:e.id=wr.id
      · have c5:(e.id != wr.id)=false:=by simp[c4]
        rw[if_neg (by rw[c5];decide),List.append_nil]at hfu
        simp[go_sem,i0,i3,k3,i4,i5,i6,jv,jh,i7,hln,he,c4,hwn]
        exact⟨l.length - (n+1),by omega,n+1,by omega,rfl,rfl,by rw[hfu],by omega⟩
      · have c5:(e.id==wr.id)=false:=beq_eq_false_iff_ne.2 c4
        have c6:(e.id != wr.id)=true:=bne_iff_ne.2 c4
        rw[if_pos c6]at hfu
        simp[go_sem,i0,i3,k3,i4,i5,i6,jv,jh,i7,hln,he,c4,c5,c6,hwn]
        refine⟨⟨by omega,by omega⟩,l.length - (n+1),by omega,n+1,by omega,rfl,rfl,?_,by omega⟩
        rw[hfu]
        simp
        rfl
    have htk:l.take n=l:=List.take_of_length_le (by omega)
    rw[htk]at jh
    obtain⟨K,hK⟩:∃ K,l.filter (fun e=>e.id != wr.id)=K:=⟨_,rfl⟩
    have hKl:K.length≤l.length:=by rw[← hK];exact List.length_filter_le _ _
    have hKm:∀ e∈K,e∈l:=fun e he=>by rw[← hK]at he;exact (List.mem_filter.1 he).1
    have hya:=hxk K hKm hKl
    rw[hK]at u1 u2 u3 jh
    obtain⟨y,hy⟩:∃ y,recvAll (room0 b0) K=y:=⟨_,rfl⟩
    rw[hy]at hya u1 u2 u3
    unfold room roomC rowsA at hya
    have hwl:IntKind.i64.wrap ((x.events.length:Int) - 1)=(y.events.length:Int):=by rw[wrapB (by omega) (by omega)];omega
    have hHl:y.heads.length≤14:=by
     obtain⟨hfy,_⟩:=RoomF.recvAll hU hA K (RoomF.new _ b0) fun e he hv=>zwb (hKm e he) hv
     rw[hy]at hfy
     have h1:=znj y.events (zbh y.events)
     have h2:=zbj y.events
     have h3:=hfy.hd
     unfold znf at h3
     rw[← h3]at h1
     omega
    have hsame:=rsame_ac x.state y.state
    rw[decide_eq_true u1]at hsame
    simp[go_sem,i0,i3,k3,i4,i5,i6,jv,jh,i7,hln]
    refine AWp.freeze 6 ?_
    refine AWp.region [] ?_
    simp[go_sem,i0,i3,k3,i4,i5,i6,jv,jh,i7,hln,h0l,hx0]
    refine cpu hya ?_
    simp[go_sem,i0,i3,k3,i4,i5,i6,jv,jh,i7,hln]
    refine cpu hsame ?_
    simp[go_sem,i0,i3,k3,i4,i5,i6,jv,jh,i7,hln,u2,hwl]
    refine AWp.loop_vc [] (fun m s=>∃ q:Nat,q≤y.heads.length∧m=y.heads.length - q∧s.σ 0=evs l∧s.σ 3=.rptr 3 (s.ver 3) 0 0∧s.h 3=.box (roomC x)∧s.σ 8=.rptr 8 (s.ver 8) 0 0∧s.h 8=.box (roomC y)∧s.σ 4=I i∧s.σ 9=I q) y.heads.length ⟨0,by simp[go_sem,i0,i3,k3,i4,roomC,rowsA,u2]⟩ ?_
    clear i0 i3 k3 i4 i5 i6 i7 jv jh s
    rintro m s ⟨q,hq,rfl,i0,i3,k3,i8,k8,i4,i9⟩
    unfold roomC rowsA at k3 k8
    rw[u2]at k3
    have hwq:IntKind.i64.wrap ((q:Int)+1)=(q:Int)+1:=wrapB (by omega) (by omega)
    by_cases hlq:q < y.heads.length
    · have hltI:(q:Int) < y.heads.length:=by omega
      simp[go_sem,i0,i3,k3,i8,k8,i4,i9,hlq,hltI]
      refine da ?_
      simp[go_sem,i0,i3,k3,i8,k8,i4,i9,hlq,hltI,hwq]
      exact⟨y.heads.length - (q+1),by omega,q+1,by omega,rfl,by rw[← u2];rfl,rfl,by omega⟩
    simp[go_sem,i0,i3,k3,i8,k8,i4,i9,hlq,hwi]
    exact⟨x.rows.length - (i+1),by omega,i+1,by omega,rfl,by rw[← u2];rfl,by omega⟩
end Go.Proofs.YthjmjdleecmaeaaGreat
