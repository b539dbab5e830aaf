/- Several texts of the proof in one: B52, B53. No condition. -/
import Derived.Test.YthjmjdleecmaeaaGreatL42
set_option linter.unusedSimpArgs false
set_option linter.unusedVariables false
set_option maxHeartbeats 4000000
set_option maxRecDepth 8000
namespace Go.Proofs.YthjmjdleecmaeaaGreat
open Go Go.Abs
def okK (e:Evt):Bool:=yp6 (kept e)==0
def zv9 (l:List Evt):List Evt:=(l.filter okK).map kept
theorem zwc (l:List Evt):(zv9 l).length≤l.length:=by
 unfold zv9
 rw[List.length_map]
 exact List.length_filter_le _ _
theorem zwb {l:List Evt} {e:Evt} (he:e∈l) (hv:yp6 (kept e)=0):kept e∈zv9 l :=
 List.mem_map.2 ⟨e,List.mem_filter.2 ⟨he,by unfold okK;rw[hv];rfl⟩,rfl⟩
theorem zwd {l:List Evt} {x:Evt} (h:x∈zv9 l):∃ e∈l,x=kept e∧yp6 x=0:=by
 unfold zv9 at h
 obtain⟨e,he,rfl⟩:=List.mem_map.1 h
 obtain⟨h1,h2⟩:=List.mem_filter.1 he
 exact⟨e,h1,rfl,by simpa [okK] using h2⟩
theorem zo7 (e:Evt):Tw (kept e) e:=by
 unfold kept
 split
 · exact Eq.refl _
 · exact Tw.strip e
theorem kept_sm {e:Evt} (h:SmE e):SmE (kept e):=by
 unfold kept
 split
 · exact h
 · exact h.strip
theorem yle (k:Int) (c:Content):(yk1 k c).levels.users.length≤c.levels.users.length∧(yk1 k c).levels.kinds.length≤c.levels.kinds.length:=by
 unfold yk1
 split
 · exact⟨Nat.le_refl _,Nat.le_refl _⟩
 split
 · exact⟨Nat.zero_le _,Nat.zero_le _⟩
 split
 · exact⟨Nat.le_refl _,Nat.le_refl _⟩
 split
 · exact⟨Nat.zero_le _,Nat.zero_le _⟩
 split
 · exact⟨Nat.zero_le _,Nat.zero_le _⟩
 split
 · exact⟨Nat.zero_le _,Nat.zero_le _⟩
 split
 · exact⟨Nat.zero_le _,Nat.zero_le _⟩
 · exact⟨Nat.zero_le _,Nat.zero_le _⟩
theorem kept_md {e:Evt} (h:Mod e):Mod (kept e):=by
 unfold kept
 split
 · exact h
 · obtain⟨h1,h2⟩:=yle e.kind e.content
   exact⟨Nat.le_trans h1 h.a4,Nat.le_trans h2 h.a5⟩
theorem zwe {l:List Evt} (hl:l.length≤12) (hs:∀ e∈l,SmE e) (hm:∀ e∈l,Mod e):Pool (zv9 l):=by
 refine⟨Nat.le_trans (zwc l) hl,fun x hx=>?_,fun x hx=>?_,fun x hx=>?_,fun x hx=>?_⟩
 · obtain⟨e,he,rfl,_⟩:=zwd hx
   exact kept_sm (hs e he)
 · obtain⟨e,he,rfl,_⟩:=zwd hx
   exact kept_md (hm e he)
 · obtain⟨e,he,_,hv⟩:=zwd hx
   have:=(yp8 hv).1
   omega
 · obtain⟨e,he,_,hv⟩:=zwd hx
   have:=(yp8 hv).2
   omega
theorem torn_tw {a b:Evt} (h:tornE a b=false):Tw a b:=by
 unfold tornE at h
 rw[Bool.or_eq_false_iff]at h
 have h1:=h.1
 simp at h1
 exact h1
theorem apart_tw {l:List Evt} (h:zdt l=true):∀ a∈l,∀ b∈l,a.id=b.id→Tw a b:=by
 have key:∀ i k,k < i→i < l.length→(l.getD i evZ).id=(l.getD k evZ).id→Tw (l.getD i evZ) (l.getD k evZ):=fun i k hk hi he=>by
  unfold zdt at h
  have h1:=List.all_eq_true.1 h i (List.mem_range.2 hi)
  unfold okRow at h1
  have h2:=List.all_eq_true.1 h1 k (List.mem_range.2 hk)
  unfold ztl at h2
  rw[beq_iff_eq.2 he,Bool.true_and]at h2
  exact torn_tw (by simpa using h2)
 intro a ha b hb he
 obtain⟨i,hi,rfl⟩:=List.mem_iff_getElem.1 ha
 obtain⟨k,hk,rfl⟩:=List.mem_iff_getElem.1 hb
 have gi:l.getD i evZ=l[i]:=by simp[List.getD,hi]
 have gk:l.getD k evZ=l[k]:=by simp[List.getD,hk]
 rcases Nat.lt_trichotomy i k with hlt|rfl|hlt
 · have:=key k i hlt hk (by rw[gi,gk,he])
   rw[gi,gk]at this
   exact this.symm'
 · exact Eq.refl _
 · have:=key i k hlt hi (by rw[gi,gk,he])
   rw[gi,gk]at this
   exact this
theorem zwa {l:List Evt} (h:zdt l=true):Apart (zv9 l):=fun a ha b hb he=>by
 obtain⟨x,hx,rfl,_⟩:=zwd ha
 obtain⟨y,hy,rfl,_⟩:=zwd hb
 rw[zo6,zo6]at he
 exact ((zo7 x).trans' (apart_tw h x hx y hy he)).trans' (zo7 y).symm'
end Go.Proofs.YthjmjdleecmaeaaGreat
namespace Go.Proofs.YthjmjdleecmaeaaGreat
open Go Go.Abs Go.Proofs.Tryz
theorem ysc (a b:List Evt) (ha:a.length≤10000000) (hb:b.length≤10000000) (hsa:∀ e∈a++b,SmE e) (hma:∀ e∈a++b,Mod e):AC prog 4 [evs a,evs b] (B true):=by
 refine AC.ob func4 ntmps4 results4 (zzj (zyk _) (zyk _)) (zx0 _) fun w S'=>AWp.of_vc [24,1000003] ?_
 have hal:=zb6
 by_cases g1:12 < a.length
 · have g1I:(12:Int) < a.length:=by omega
   simp[go_sem,g1I]
   refine cpu hal ?_
   simp[go_sem]
   exact rets
 have g1I:¬ (12:Int) < a.length:=by omega
 by_cases g2:12 < b.length
 · have g2I:(12:Int) < b.length:=by omega
   simp[go_sem,g1I,g2I]
   refine cpu hal ?_
   simp[go_sem]
   exact rets
 have g2I:¬ (12:Int) < b.length:=by omega
 cases hac:a with
 | nil =>
  rw[hac]at g1I
  simp[go_sem,g1I,g2I]
  refine cpu hal ?_
  simp[go_sem]
  exact rets
 | cons a0 ar =>
  rw[← hac]
  have g3:¬ a=[]:=by rw[hac];exact fun h=>by cases h
  have g3I:¬ (a.length:Int)=0:=by rw[hac];simp;omega
  have g3B:((a.length:Int)==0)=false:=beq_eq_false_iff_ne.2 g3I
  simp[go_sem,g1I,g2I,g3,g3I,g3B]
  refine⟨⟨by omega,by omega⟩,⟨by omega,by omega⟩,?_⟩
  have hap:=apart_ac (a++b) (by rw[List.length_append];omega) hsa
  unfold evs at hap
  rw[List.map_append]at hap
  obtain⟨r,hr⟩:∃ r,zdt (a++b)=r:=⟨_,rfl⟩
  rw[hr]at hap
  refine CallSem.lent (r:=B r) hap (zlr _) (by simp[go_sem]) ?_
  cases r with
  | false =>
   simp[go_sem]
   refine cpu hal ?_
   simp[go_sem]
   exact rets
  | true =>
   have h0l:0 < a.length:=by rw[hac];simp
   have hx0:a[0]=a0:=by simp[hac]
   have ha0:a0∈a:=by rw[hac];exact List.mem_cons_self ..
   have hrl:a0.room.length≤1000000000000:=by
    have:=hsa a0 (List.mem_append_left _ ha0)
    unfold SmE bkE at this
    omega
   have hPa:=zwe (l:=a) (by omega) (fun e he=>hsa e (List.mem_append_left _ he)) (fun e he=>hma e (List.mem_append_left _ he))
   have hPb:=zwe (l:=b) (by omega) (fun e he=>hsa e (List.mem_append_right _ he)) (fun e he=>hma e (List.mem_append_right _ he))
   have hxa:=yfv (zv9 a) hPa a0.room hrl a (by omega) (fun e he=>hsa e (List.mem_append_left _ he)) (fun e he hv=>zwb he hv)
   have hxb:=yfv (zv9 b) hPb a0.room hrl b (by omega) (fun e he=>hsa e (List.mem_append_right _ he)) (fun e he hv=>zwb he hv)
   obtain⟨b0,hb0⟩:=zsb a0.room
   rw[hb0]at hxa hxb
   have hinA:=RoomIn.recvAll hPa a (RoomIn.new (U:=zv9 a) b0) fun e he hv=>zwb he hv
   have hinB:=RoomIn.recvAll hPb b (RoomIn.new (U:=zv9 b) b0) fun e he hv=>zwb he hv
   have hU:(zv9 (a++b)).length≤24:=by
    have:=zwc (a++b)
    rw[List.length_append]at this
    omega
   have hA:=zwa hr
   obtain⟨hfa,_⟩:=RoomF.recvAll hU hA a (RoomF.new _ b0) fun e he hv=>zwb (List.mem_append_left _ he) hv
   obtain⟨hfb,_⟩:=RoomF.recvAll hU hA b (RoomF.new _ b0) fun e he hv=>zwb (List.mem_append_right _ he) hv
   obtain⟨x,hx⟩:∃ x,recvAll (room0 b0) a=x:=⟨_,rfl⟩
   obtain⟨y,hy⟩:∃ y,recvAll (room0 b0) b=y:=⟨_,rfl⟩
   rw[hx]at hxa hinA hfa
   rw[hy]at hxb hinB hfb
   have hagr:=ysb hU hA hfa hfb
   have hgA:=(hinA.ok hPa (by omega)).good
   have hgB:=(hinB.ok hPb (by omega)).good
   clear hap hsa hma hPa hPb hinA hinB hU hA hx hy hb0 hac
   unfold room roomC rowsA at hxa hxb
   simp[go_sem]
   refine AWp.drawDeep [] [5,6] [] [] [0,1,2,3,4,5,6,7,8,9,10,11,12,13,14,15] rfl (by kernel_rfl) (fun d d' h=>h) rfl ?_
   simp[go_sem,h0l,hx0]
   refine CalmThen.pure hxa rfl ?_
   simp[go_sem,h0l,hx0]
   refine CalmThen.pure hxb rfl ?_
   by_cases c1:(x.events.length:Int)=y.events.length
   case neg =>
    have c2:((x.events.length:Int)==y.events.length)=false:=beq_eq_false_iff_ne.2 c1
    have c3:((x.events.length:Int) != y.events.length)=true:=bne_iff_ne.2 c1
    simp[go_sem,c1,c2,c3]
    refine cpu hal ?_
    simp[go_sem]
    exact rets
   have hXl:x.events.length≤14:=hgA.fit.len
   have hll:x.events.length=y.events.length:=by omega
   simp[go_sem,c1]
   refine AWp.loop_vc [] (fun m s=>∃ q:Nat,q≤x.events.length∧m=x.events.length - q∧s.σ 5=.rptr 5 (s.ver 5) 0 0∧s.h 5=.box (roomC x)∧s.σ 6=.rptr 6 (s.ver 6) 0 0∧s.h 6=.box (roomC y)∧s.σ 7=I q∧∀ (j:Nat) (h1:j < x.events.length) (h2:j < y.events.length),j < q→x.events[j].id=y.events[j].id) x.events.length ⟨0,by simp[go_sem,roomC,rowsA]⟩ ?_
   rintro m s ⟨q,hq,rfl,i5,k5,i6,k6,i7,hids⟩
   unfold roomC rowsA at k5 k6
   have hws:IntKind.i64.wrap ((q:Int)+1)=(q:Int)+1:=wrapB (by omega) (by omega)
   by_cases hlt:q < x.events.length
   · have hlt2:q < y.events.length:=by omega
     have hltI:(q:Int) < x.events.length:=by omega
     obtain⟨u,hu⟩:∃ u,x.events[q]=u:=⟨_,rfl⟩
     obtain⟨v,hv⟩:∃ v,y.events[q]=v:=⟨_,rfl⟩
     simp[go_sem,i5,k5,i6,k6,i7,hlt,hltI]
     refine da ?_
     by_cases c4:u.id=v.id
     · simp[go_sem,i5,k5,i6,k6,i7,hlt,hltI,hlt2,hu,hv,c4,hws]
       refine⟨x.events.length - (q+1),by omega,q+1,by omega,rfl,rfl,rfl,by omega,fun j h1 h2 hj=>?_⟩
       rcases Nat.lt_succ_iff_lt_or_eq.1 hj with h|rfl
       · exact hids j h1 h2 h
       · rw[hu,hv];exact c4
     · have c5:(u.id==v.id)=false:=beq_eq_false_iff_ne.2 c4
       have c6:(u.id != v.id)=true:=bne_iff_ne.2 c4
       simp[go_sem,i5,k5,i6,k6,i7,hlt,hltI,hlt2,hu,hv,c4,c5,c6]
       refine cpu hal ?_
       simp[go_sem]
       exact rets
   have hqe:q=x.events.length:=by omega
   have hids2:x.events.map (·.id)=y.events.map (·.id):=by
    apply List.ext_getElem
    · simp[hll]
    · intro j h1 h2
      simp only[List.length_map]at h1 h2
      rw[List.getElem_map,List.getElem_map]
      exact hids j h1 h2 (by omega)
   obtain⟨hst,hhe,hwh⟩:=hagr hids2
   have hsame:=rsame_ac x.state y.state
   rw[decide_eq_true hst]at hsame
   have hHl:y.heads.length≤14:=by
    have h1:=znj y.events (zbh y.events)
    have h2:=zbj y.events
    have h3:=hfb.hd
    unfold znf at h3
    rw[← h3]at h1
    omega
   simp[go_sem,i5,k5,i6,k6,i7,hlt]
   refine cpu hsame ?_
   simp[go_sem,i5,k5,i6,k6,i7,hlt,hhe]
   refine AWp.loop_vc [] (fun m s=>∃ q:Nat,q≤y.heads.length∧m=y.heads.length - q∧s.σ 5=.rptr 5 (s.ver 5) 0 0∧s.h 5=.box (roomC x)∧s.σ 6=.rptr 6 (s.ver 6) 0 0∧s.h 6=.box (roomC y)∧s.σ 8=I q) y.heads.length ⟨0,by simp[go_sem,i5,k5,i6,k6,roomC,rowsA,hhe]⟩ ?_
   clear i5 k5 i6 k6 i7 hids hq hws hlt hqe s
   rintro m s ⟨q,hq,rfl,i5,k5,i6,k6,i8⟩
   unfold roomC rowsA at k5 k6
   rw[hhe]at k5
   have hws:IntKind.i64.wrap ((q:Int)+1)=(q:Int)+1:=wrapB (by omega) (by omega)
   by_cases hlt:q < y.heads.length
   · have hltI:(q:Int) < y.heads.length:=by omega
     simp[go_sem,i5,k5,i6,k6,i8,hlt,hltI]
     refine da ?_
     simp[go_sem,i5,k5,i6,k6,i8,hlt,hltI,hws]
     exact⟨y.heads.length - (q+1),by omega,q+1,by omega,rfl,by rw[← hhe];rfl,rfl,by omega⟩
   simp[go_sem,i5,k5,i6,k6,i8,hlt]
   refine AWp.loop_vc [] (fun m s=>∃ q:Nat,q≤x.events.length∧m=x.events.length - q∧s.σ 5=.rptr 5 (s.ver 5) 0 0∧s.h 5=.box (roomC x)∧s.σ 6=.rptr 6 (s.ver 6) 0 0∧s.h 6=.box (roomC y)∧s.σ 9=I q) x.events.length ⟨0,by simp[go_sem,i5,k5,i6,k6,roomC,rowsA,hhe]⟩ ?_
   clear i5 k5 i6 k6 i8 hq hws hlt s
   rintro m s ⟨q,hq,rfl,i5,k5,i6,k6,i9⟩
   unfold roomC rowsA at k5 k6
   have hws:IntKind.i64.wrap ((q:Int)+1)=(q:Int)+1:=wrapB (by omega) (by omega)
   by_cases hlt:q < x.events.length
   · have hltI:(q:Int) < x.events.length:=by omega
     obtain⟨u,hu⟩:∃ u,x.events[q]=u:=⟨_,rfl⟩
     have hum:u∈x.events:=by rw[← hu];exact List.getElem_mem hlt
     have hwu:=hwh u.id (zp2 hum)
     have hwx:=why_ac x.events u.id hgA
     have hwy:=why_ac y.events u.id hgB
     rw[hwu]at hwx
     simp[go_sem,i5,k5,i6,k6,i9,hlt,hltI,hu]
     refine da ?_
     simp[go_sem,i5,k5,i6,k6,i9,hlt,hltI,hu]
     refine CalmThen.pure hwx rfl ?_
     simp[go_sem,i5,k5,i6,k6,i9,hlt,hltI,hu]
     refine CalmThen.pure hwy rfl ?_
     simp[go_sem,i5,k5,i6,k6,i9,hlt,hltI,hu,hws]
     exact⟨x.events.length - (q+1),by omega,q+1,by omega,rfl,rfl,rfl,by omega⟩
   simp[go_sem,i5,k5,i6,k6,i9,hlt]
   refine cpu hal ?_
   simp[go_sem]
   exact rets
end Go.Proofs.YthjmjdleecmaeaaGreat
