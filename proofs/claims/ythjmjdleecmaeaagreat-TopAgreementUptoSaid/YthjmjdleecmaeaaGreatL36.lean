/- Several texts of the proof in one: B27, B28, B29, B30. No condition. -/
import Derived.Test.YthjmjdleecmaeaaGreatL35
set_option linter.unusedSimpArgs false
set_option linter.unusedVariables false
set_option maxHeartbeats 4000000
set_option maxRecDepth 8000
namespace Go.Proofs.YthjmjdleecmaeaaGreat
open Go Go.Abs Go.Proofs.Tryz
theorem StOk.known {l:List Evt} {s:List EntD} (h:StOk l s):∀ n∈s.map (·.id),zpu l n=true:=fun n hn=>by
 obtain⟨x,hx,rfl⟩:=List.mem_map.1 hn
 obtain⟨e,he,_,_⟩:=h.ev x hx
 unfold zpu
 rw[he];rfl
theorem zgr {l:List Evt} {s:List EntD} (h:StOk l s):∀ n∈zgp l s,zpu l n=true:=fun n hn=>by
 unfold zgp at hn
 rcases List.mem_append.1 ((yjo _).2 n |>.1 hn) with hn|hn
 · exact h.known n hn
 · exact (mem_reachOf.1 hn).known
theorem zmm {l:List Evt} {ss:List (List EntD)} (h:∀ s∈ss,StOk l s):∀ n∈zmk l ss,zpu l n=true:=fun n hn=>by
 unfold zmk zmo at hn
 rcases List.mem_append.1 ((yjk _).2 n |>.1 hn) with hn|hn
 · have hn:=(yjk _).2 n |>.1 hn
   unfold idsO at hn
   obtain⟨s,hs,hn⟩:=List.mem_flatMap.1 hn
   unfold idsS at hn
   obtain⟨x,hx,rfl⟩:=List.mem_map.1 hn
   exact (h s (List.mem_of_mem_take hs)).known _ (List.mem_map.2 ⟨x,(List.mem_filter.1 hx).1,rfl⟩)
 · unfold zic at hn
   have hn:=(List.mem_filter.1 ((yjk _).2 n |>.1 hn)).1
   unfold seqOf at hn
   obtain⟨s,hs,hn⟩:=List.mem_flatMap.1 hn
   exact zgr (h s hs) n hn
theorem zmn (l:List Evt) (ss:List (List EntD)):(zmk l ss).Pairwise (· < ·):=(yjk _).1
theorem full_len {l:List Evt} {ss:List (List EntD)} (h:∀ s∈ss,StOk l s):(zmk l ss).length≤l.length:=yjp (zmn l ss) (zmm h)
theorem zwm (l:List Evt) (ss:List (List EntD)):(zwl l ss).length≤(zmk l ss).length:=pset_len _ _
theorem zwh (l:List Evt) (ss:List (List EntD)):(zwf l ss).length≤l.length:=by
 have h1:(zpx l (zwl l ss)).Nodup:=(zpy l _).imp fun h=>Int.ne_of_lt h
 have h2:=zu2 l h1
 have h3:=yjp (zpy l (zwl l ss)) fun n hn=>(mem_knownOf.1 hn).2
 unfold zwf
 omega
theorem zrt (a b:List Int):(zrq a b).length≤a.length:=by
 unfold zrq
 exact Nat.le_trans (List.length_filter_le _ _) (yji a)
theorem zvb (l:List Evt) (main ids:List Int):(order2 l main ids).length≤ids.length:=by
 have h1:=zg5 (yjg (zo1 l main ids)) (yjg (zo1 l main ids)).length
 have h2:(yjg (zo1 l main ids)).length=(zo1 l main ids).length:=by unfold yjg;rw[List.length_mergeSort]
 have h3:=zo2 l main ids
 unfold order2 comp
 rw[List.length_map]
 omega
theorem methP:ynr prog 199 "fedchat/resolve.sort" = some 298:=by kernel_rfl
theorem concP:tConc prog 199=true:=by kernel_rfl
theorem concM:tConc prog 203=true:=by kernel_rfl
theorem methM:ynr prog 203 "fedchat/resolve.sort" = some 303:=by kernel_rfl
def tryAV (s:List EntD) (ids:List Int):AV:=.tup [ents s,ints ids]
theorem zxx (s:List EntD) (ids:List Int):PureR (tryAV s ids):=by
 intro r hr
 simp only[List.mem_cons,List.not_mem_nil,or_false]at hr
 rcases hr with rfl|rfl
 · exact zye _
 · exact zyr _
theorem sortP_ac (l:List Evt) (ids:List Int) (hl:Good l) (hsz:ids.length≤1000):AC prog 298 [.agg [],evs l,ints ids] (ints (ordL l (zpx l ids))):=by
 refine AC.ob func298 ntmps298 results298 (zzk (zx3 fun c h=>by cases h) (zyk _) (zyr _)) (zxe _) fun w S'=>AWp.of_vc [] ?_
 simp[go_sem]
 refine cpu (zwg l ids hl.fit hl.ok.md hsz) ?_
 simp[go_sem]
 exact rets
theorem Good.few {l:List Evt} (h:Good l):Few l:=fun e he=>by have:=h.fit.auth e he;omega
theorem sortM_ac (l:List Evt) (main ids:List Int) (hl:Good l) (hsz:ids.length≤1000):AC prog 303 [.agg [ints main],evs l,ints ids] (ints (order2 l main ids)):=by
 refine AC.ob func303 ntmps303 results303 (zzk (zx3 fun c h=>by simp only[List.mem_singleton]at h;subst h;exact zyr _) (zyk _) (zyr _)) (zxe _) fun w S'=>AWp.of_vc [] ?_
 have hll:=hl.fit.len
 simp[go_sem]
 refine cpu (zu9 l main ids (by omega) hl.few (by omega)) ?_
 simp[go_sem]
 exact rets
theorem tryP_ac (l:List Evt) (s:List EntD) (ids:List Int) (hl:Good l) (hsz:ids.length≤1000) (hs:s.length≤1000):AC prog 146 [evs l,ents s,ints ids,.iface 199 (.agg [])] (tryAV (zd0 l s (ordL l (zpx l ids))) (ordL l (zpx l ids))):=by
 refine AC.ob func146 ntmps146 results146 (zzl (zyk _) (zye _) (zyr _) (zyq (zx3 fun c h=>by cases h))) (zxx _ _) fun w S'=>AWp.of_vc [] ?_
 have hll:=hl.fit.len
 have h1:(zpx l ids).Nodup:=(zpy l _).imp fun h=>Int.ne_of_lt h
 have h2:=zu2 l h1
 have h3:=yjp (zpy l ids) fun n hn=>(mem_knownOf.1 hn).2
 simp[go_sem,methP]
 refine cpu (sortP_ac l ids hl hsz) ?_
 simp[go_sem]
 refine cpu (zd3 l s (ordL l (zpx l ids)) hl (by omega)) ?_
 simp[go_sem]
 refine PostR.ret ?_
 simp[go_sem,tryAV]
theorem yo8 (l:List Evt) (s:List EntD) (main ids:List Int) (hl:Good l) (hsz:ids.length≤1000) (hs:s.length≤1000):AC prog 146 [evs l,ents s,ints ids,.iface 203 (.agg [ints main])] (tryAV (zd0 l s (order2 l main ids)) (order2 l main ids)):=by
 refine AC.ob func146 ntmps146 results146 (zzl (zyk _) (zye _) (zyr _) (zyq (zx3 fun c h=>by simp only[List.mem_singleton]at h;subst h;exact zyr _))) (zxx _ _) fun w S'=>AWp.of_vc [] ?_
 have h2:=zvb l main ids
 simp[go_sem,methM]
 refine cpu (sortM_ac l main ids hl hsz) ?_
 simp[go_sem]
 refine cpu (zd3 l s (order2 l main ids) hl (by omega)) ?_
 simp[go_sem]
 refine PostR.ret ?_
 simp[go_sem,tryAV]
noncomputable def zvj (l:List Evt) (ss:List (List EntD)):AV:=.agg [ents (yiu l ss),ints (zwf l ss),ints (zvi l ss)]
theorem zy7 (l:List Evt) (ss:List (List EntD)):Pure (zvj l ss):=zx3 fun c hc=>by
 simp only[List.mem_cons,List.not_mem_nil,or_false]at hc
 rcases hc with rfl|rfl|rfl
 · exact zye _
 · exact zyr _
 · exact zyr _
theorem yir {s d:List EntD} {q:Nat} (h:q < d.length):yio s (d.take (q+1))=setOf (yio s (d.take q)) d[q].kind d[q].key d[q].id:=by
 unfold yio
 rw[List.take_succ_eq_append_getElem h,List.foldl_append];rfl
theorem yiw (l:List Evt) (ss:List (List EntD)) (hl:Good l) (hn:ss.length≤14) (hs:∀ s∈ss,StOk l s):AC prog 96 [evs l,ykh ss] (zvj l ss):=by
 refine AC.ob func96 ntmps96 results96 (zzj (zyk _) (zze _)) (zy7 _ _) fun w S'=>AWp.of_vc [1000008] ?_
 have hll:=hl.fit.len
 have hs2:∀ s∈ss,s.length≤1000:=fun s h=>by have:=(hs s h).len;omega
 have hfl:=full_len hs
 have hpl:=zwm l ss
 have hpol:=zwh l ss
 have hml:=zrt (zmk l ss) (zwl l ss)
 have hA:=zby hs
 have hAl:=hA.len
 have hM:StOk l (midOf l ss):=StOk.apply _ hA
 have hMl:=hM.len
 have hol:=zvb l (zq2 l (midOf l ss)) (zrq (zmk l ss) (zwl l ss))
 have hB:StOk l (zd0 l (midOf l ss) (zvi l ss)):=StOk.apply _ hM
 have hBl:=hB.len
 have hsets:∀ q,(yio (zd0 l (midOf l ss) (zvi l ss)) ((zbw ss).take q)).length≤l.length:=fun q=>(yiq _ hB fun x hx=>hA.ev x (List.mem_of_mem_take hx)).len
 simp[go_sem]
 refine cpu (split_ac ss (by omega) hs2) ?_
 unfold yjx
 simp[go_sem]
 refine cpu (full_ac l ss hl.fit hn hs2) ?_
 simp[go_sem]
 refine CallSem.pure (pset_ac l (zmk l ss) hl.fit (by omega)) (by simp[go_sem,zmk]) ?_
 simp[go_sem,concP]
 refine cpu (tryP_ac l (zbw ss) (zwl l ss) hl (by omega) (by omega)) ?_
 have hP0:ordL l (zpx l (zwl l ss))=zwf l ss:=rfl
 have hM0:zd0 l (zbw ss) (zwf l ss)=midOf l ss:=rfl
 unfold tryAV
 rw[hP0,hM0]
 simp[go_sem]
 refine AWp.nilLst 11 1 (by simp[go_sem]) ?_
 refine AWp.region [] ?_
 simp[go_sem]
 refine cpu (zmy (midOf l ss) 3 []) ?_
 unfold optAV
 have hmain:zq2 l (midOf l ss)=match getOf (midOf l ss) 3 [] with
  | some id=>wayOf l id
  | none=>[]:=rfl
 cases hg:getOf (midOf l ss) 3 [] with
 | none =>
  rw[hg]at hmain
  simp only at hmain
  simp[go_sem]
  refine cpu (zrr (zmk l ss) (zwl l ss) (by omega) (by omega)) ?_
  simp[go_sem,concM]
  refine cpu (yo8 l (midOf l ss) [] (zrq (zmk l ss) (zwl l ss)) hl (by omega) (by omega)) ?_
  unfold tryAV
  simp[go_sem]
  have hO:order2 l [] (zrq (zmk l ss) (zwl l ss))=zvi l ss:=by unfold zvi;rw[hmain]
  rw[hO]
  refine AWp.loop_vc [] (fun m s=>∃ q:Nat,q≤(zbw ss).length∧m=(zbw ss).length - q∧s.σ 60=ents (zbw ss)∧s.σ 61=I (zbw ss).length∧s.σ 62=I q∧s.σ 4=.rptr 4 (s.ver 4) 0 0∧s.h 4=.box [.v (.slice none 0 0),.v (.slice none 0 0),.v (.slice none 0 0)]∧s.σ 9=.rptr 9 (s.ver 9) 0 0∧s.h 9=.box [ents (yio (zd0 l (midOf l ss) (zvi l ss)) ((zbw ss).take q)),ints (zwf l ss),ints (zvi l ss)]) (zbw ss).length ⟨0,by simp[go_sem,yio,zbw]⟩ ?_
  rintro m s ⟨q,hq,rfl,h60,h61,h62,h4,hb4,h9,hb9⟩
  have hsq:=hsets q
  have hws:IntKind.i64.wrap ((q:Int)+1)=(q:Int)+1:=wrapB (by omega) (by omega)
  by_cases hlt:q < (zbw ss).length
  · obtain⟨x,hx⟩:∃ x,(zbw ss)[q]=x:=⟨_,rfl⟩
    have hsu:=yir (s:=zd0 l (midOf l ss) (zvi l ss)) hlt
    rw[hx]at hsu
    generalize yio (zd0 l (midOf l ss) (zvi l ss)) ((zbw ss).take q)=now at hb9 hsu hsq
    simp[go_sem,h60,h61,h62,h4,hb4,h9,hb9,hlt,hx,enc]
    refine cpu (yin now x.kind x.key x.id (by omega)) ?_
    simp[go_sem,h60,h61,h62,h4,hb4,h9,hb9,hlt,hx,enc,hws]
    refine⟨(zbw ss).length - (q+1),by omega,q+1,by omega,rfl,by omega,?_⟩
    rw[hsu]
  · have htk:(zbw ss).take q=zbw ss:=List.take_of_length_le (by omega)
    rw[htk]at hb9
    simp[go_sem,h60,h61,h62,h4,hb4,h9,hb9,hlt]
    refine PostR.ret ?_
    simp[go_sem,h4,zvj,yiu]
 | some id =>
  rw[hg]at hmain
  simp only at hmain
  simp[go_sem]
  refine cpu (way_ac l id (by omega) hl.few) ?_
  rw[← hmain]
  simp[go_sem]
  refine cpu (zrr (zmk l ss) (zwl l ss) (by omega) (by omega)) ?_
  simp[go_sem,concM]
  refine cpu (yo8 l (midOf l ss) (zq2 l (midOf l ss)) (zrq (zmk l ss) (zwl l ss)) hl (by omega) (by omega)) ?_
  unfold tryAV
  simp[go_sem]
  have hO:order2 l (zq2 l (midOf l ss)) (zrq (zmk l ss) (zwl l ss))=zvi l ss:=rfl
  rw[hO]
  refine AWp.loop_vc [] (fun m s=>∃ q:Nat,q≤(zbw ss).length∧m=(zbw ss).length - q∧s.σ 60=ents (zbw ss)∧s.σ 61=I (zbw ss).length∧s.σ 62=I q∧s.σ 4=.rptr 4 (s.ver 4) 0 0∧s.h 4=.box [.v (.slice none 0 0),.v (.slice none 0 0),.v (.slice none 0 0)]∧s.σ 9=.rptr 9 (s.ver 9) 0 0∧s.h 9=.box [ents (yio (zd0 l (midOf l ss) (zvi l ss)) ((zbw ss).take q)),ints (zwf l ss),ints (zvi l ss)]) (zbw ss).length ⟨0,by simp[go_sem,yio,zbw]⟩ ?_
  rintro m s ⟨q,hq,rfl,h60,h61,h62,h4,hb4,h9,hb9⟩
  have hsq:=hsets q
  have hws:IntKind.i64.wrap ((q:Int)+1)=(q:Int)+1:=wrapB (by omega) (by omega)
  by_cases hlt:q < (zbw ss).length
  · obtain⟨x,hx⟩:∃ x,(zbw ss)[q]=x:=⟨_,rfl⟩
    have hsu:=yir (s:=zd0 l (midOf l ss) (zvi l ss)) hlt
    rw[hx]at hsu
    generalize yio (zd0 l (midOf l ss) (zvi l ss)) ((zbw ss).take q)=now at hb9 hsu hsq
    simp[go_sem,h60,h61,h62,h4,hb4,h9,hb9,hlt,hx,enc]
    refine cpu (yin now x.kind x.key x.id (by omega)) ?_
    simp[go_sem,h60,h61,h62,h4,hb4,h9,hb9,hlt,hx,enc,hws]
    refine⟨(zbw ss).length - (q+1),by omega,q+1,by omega,rfl,by omega,?_⟩
    rw[hsu]
  · have htk:(zbw ss).take q=zbw ss:=List.take_of_length_le (by omega)
    rw[htk]at hb9
    simp[go_sem,h60,h61,h62,h4,hb4,h9,hb9,hlt]
    refine PostR.ret ?_
    simp[go_sem,h4,zvj,yiu]
theorem yf5 (l:List Evt) (ss:List (List EntD)) (hl:Good l) (hn:ss.length≤14) (hs:∀ s∈ss,StOk l s):AC prog 59 [evs l,ykh ss] (ents (yf4 l ss)):=by
 refine AC.ob func59 ntmps59 results59 (zzj (zyk _) (zze _)) (zw3 _) fun w S'=>AWp.of_vc [14] ?_
 have hll:=hl.fit.len
 cases ss with
 | nil =>
  simp[go_sem,ykh]
  refine PostR.retW [] (r0:=.v (.slice none 0 0)) (by simp[go_sem]) (.nil _)
 | cons s ss =>
  cases ss with
  | nil =>
   have hsl:=(hs s (List.mem_cons_self ..)).len
   have hr:yf4 l [s]=s:=rfl
   rw[hr]
   simp[go_sem,ykh]
   refine⟨by omega,?_⟩
   refine PostR.retW [14] (r0:=ents s) (by simp[go_sem]) (.refl _)
  | cons s2 ss =>
   have hr:yf4 l (s::s2::ss)=yiu l (s::s2::ss):=rfl
   rw[hr]
   have g0:¬ ((ss.length:Int)+1+1=0):=by omega
   have g0':((ss.length:Int)+1+1==0)=false:=beq_eq_false_iff_ne.2 g0
   have g1:¬ ((ss.length:Int)+1+1=1):=by omega
   have g1':((ss.length:Int)+1+1==1)=false:=beq_eq_false_iff_ne.2 g1
   simp[go_sem,ykh,g0,g0',g1,g1']
   refine cpu (yiw l (s::s2::ss) hl hn hs) ?_
   unfold zvj
   simp[go_sem]
   exact rets
def errA (er:Int→Option Int):Int→Option AV:=fun n=>(er n).map I
def stA (f:Int→Option (List EntD)):Int→Option AV:=fun n=>(f n).map ents
theorem zyg (er:Int→Option Int):Pure (.amapv (errA er)):=zx4 fun n a h=>by
 unfold errA at h
 obtain⟨x,_,rfl⟩:=Option.map_eq_some_iff.1 h
 exact zx1 _
theorem zzd (f:Int→Option (List EntD)):Pure (.amapv (stA f)):=zx4 fun n a h=>by
 unfold stA at h
 obtain⟨x,_,rfl⟩:=Option.map_eq_some_iff.1 h
 exact zye _
structure Tab where
 before:Int→Option (List EntD)
 after:Int→Option (List EntD)
 errs:Int→Option Int
def tabC (t:Tab):List AV:=[.amapv (stA t.before),.amapv (stA t.after),.amapv (errA t.errs)]
theorem zzg (t:Tab):∀ c∈tabC t,Pure c:=fun c hc=>by
 simp only[tabC,List.mem_cons,List.not_mem_nil,or_false]at hc
 rcases hc with rfl|rfl|rfl
 · exact zzd _
 · exact zzd _
 · exact zyg _
def errOf (er:Int→Option Int) (n:Int):Int:=(er n).getD 0
def badB (er:Int→Option Int) (n:Int):Bool:=errOf er n != 0
def yp4 (l:List Evt) (er:Int→Option Int) (e:Evt) (s:List EntD):Int :=
 if zld l e≠0 then zld l e else if zcp e (zmb l e)≠0 then zcp e (zmb l e) else
 if e.auth.any (badB er)=true then 16 else zcp e (eventsOf l s)
theorem zjg {l:List Evt} {s:List EntD} {e:Evt} (h:e∈eventsOf l s):e∈l:=by
 unfold eventsOf at h
 obtain⟨x,_,hx⟩:=List.mem_filterMap.1 h
 exact List.mem_of_find?_eq_some hx
theorem Good.sub {l m:List Evt} (h:Good l) (hm:∀ e∈m,e∈l) (hl:m.length≤1000000):AuthOk m:=⟨fun e he=>h.ok.sm e (hm e he),fun e he=>h.ok.md e (hm e he),hl⟩
theorem zErr:yrs prog 51=some (.v (.int .i64 0)):=by kernel_rfl
theorem yrr:yrs prog 28=some (.lst 3 []):=by kernel_rfl
theorem zi5 (er:Int→Option Int) (n:Int):getM (errA er) (.v (.int .i64 0)) n=I (errOf er n):=by
 unfold getM errA errOf
 cases er n<;>rfl
theorem yp5 (l:List Evt) (t:Tab) (e:Evt) (s:List EntD) (hl:Good l) (he:e∈l) (hs:StOk l s):AC prog 60 [.eptr (tabC t) 0,evs l,ev e,ents s] (I (yp4 l t.errs e s)):=by
 refine AC.ob func60 ntmps60 results60 (zzl (zyf (zzg t)) (zyk _) (zyh _) (zye _)) (zx1 _) fun w S'=>AWp.of_vc [] ?_
 have ha:=hl.fit.auth e he
 have hsl:=hs.len
 have hll:=hl.fit.len
 obtain⟨r,hr⟩:∃ r,yp4 l t.errs e s=r:=⟨_,rfl⟩
 rw[hr]
 unfold yp4 at hr
 simp[go_sem]
 refine cpu (fits_ac l e (by omega)) ?_
 obtain⟨v1,h1⟩:∃ v1,zld l e=v1:=⟨_,rfl⟩
 rw[h1]at hr ⊢
 by_cases c1:v1=0
 case neg =>
  have g1:(v1 != 0)=true:=bne_iff_ne.2 c1
  rw[if_pos c1]at hr
  rw[← hr]
  simp[go_sem,c1,g1]
  exact rets
 rw[if_neg (not_not_intro c1)]at hr
 rw[c1]
 simp[go_sem]
 refine da ?_
 simp[go_sem]
 refine CalmThen.pure (zme l e (by omega)) rfl ?_
 simp[go_sem]
 have hfl:(zmb l e).length≤5:=Nat.le_trans (zmc l e) (zpk e)
 refine CalmThen.pure (zcq e (zmb l e) (hl.sub (fun x hx=>zmd x hx) (by omega)) (hl.ok.sm e he) (hl.ok.md e he)) rfl ?_
 obtain⟨v2,h2⟩:∃ v2,zcp e (zmb l e)=v2:=⟨_,rfl⟩
 rw[h2]at hr ⊢
 by_cases c2:v2=0
 case neg =>
  have g1:(v2 != 0)=true:=bne_iff_ne.2 c2
  rw[if_pos c2]at hr
  rw[← hr]
  simp[go_sem,c2,g1]
  exact rets
 rw[if_neg (not_not_intro c2)]at hr
 rw[c2]
 simp[go_sem]
 refine AWp.loop_vc [] (fun m s1=>∃ q:Nat,q≤e.auth.length∧m=e.auth.length - q∧s1.σ 0=.eptr (tabC t) 0∧s1.σ 1=evs l∧s1.σ 3=ents s∧s1.σ 6=.eptr (evc e) 0∧s1.σ 28=ints e.auth∧s1.σ 29=I e.auth.length∧s1.σ 30=I q∧∀ (j:Nat) (hj:j < e.auth.length),j < q→badB t.errs e.auth[j]=false) e.auth.length ⟨0,by simp[go_sem]⟩ ?_
 rintro m s1 ⟨q,hq,rfl,i0,i1,i3,i6,i28,i29,i30,hno⟩
 have hws:IntKind.i64.wrap ((q:Int)+1)=(q:Int)+1:=wrapB (by omega) (by omega)
 by_cases hlt:q < e.auth.length
 · obtain⟨x,hx⟩:∃ x,e.auth[q]=x:=⟨_,rfl⟩
   obtain⟨v3,h3⟩:∃ v3,errOf t.errs x=v3:=⟨_,rfl⟩
   have hget:=zi5 t.errs x
   rw[h3]at hget
   by_cases c3:v3=0
   · have hb:badB t.errs x=false:=by unfold badB;rw[h3,c3];rfl
     rw[c3]at hget
     simp[go_sem,i0,i1,i3,i6,i28,i29,i30,hlt,hx,tabC,zErr,hget,hws]
     refine⟨e.auth.length - (q+1),by omega,q+1,by omega,rfl,by omega,fun j hj hjq=>?_⟩
     rcases Nat.lt_succ_iff_lt_or_eq.1 hjq with h|rfl
     · exact hno j hj h
     · rw[hx];exact hb
   · have hb:badB t.errs x=true:=by unfold badB;rw[h3];exact bne_iff_ne.2 c3
     rw[zdo hlt (by rw[hx];exact hb),if_pos rfl]at hr
     rw[← hr]
     have g3:(v3 != 0)=true:=bne_iff_ne.2 c3
     simp[go_sem,i0,i1,i3,i6,i28,i29,i30,hlt,hx,tabC,zErr,hget,c3,g3]
     exact rets
 · rw[zsr (p:=badB t.errs) fun j hj=>hno j hj (by omega),if_neg (by decide)]at hr
   simp[go_sem,i0,i1,i3,i6,i28,i29,i30,hlt]
   refine da ?_
   simp[go_sem,i0,i1,i3,i6]
   refine CalmThen.pure (zji l s (by omega)) rfl ?_
   simp[go_sem,i0,i1,i3,i6]
   have hel:(eventsOf l s).length≤s.length:=List.length_filterMap_le _ _
   refine CalmThen.pure (zcq e (eventsOf l s) (hl.sub (fun x hx=>zjg hx) (by omega)) (hl.ok.sm e he) (hl.ok.md e he)) rfl ?_
   simp[go_sem]
   refine PostR.ret ?_
   simp[go_sem,hr]
end Go.Proofs.YthjmjdleecmaeaaGreat
namespace Go.Abs
open Go Go.RowKit Go.Proofs.Tryz
theorem zbf {G:Ctx} {own X Y early:List Nat} {ops:Array Oper} {QS:St→Prop} {dst:Option Tmp} {ty:TypeId} {po:String} {af:Array Edge} {gd:Option (Nat×Bool)} {l:List Oper} {st:St} (x:Operand) :
 vcAny G own X Y early ops QS (⟨dst,.nilCheck x,ty,po,af,gd⟩::l) st=(dj X (st.ev x)=true∧ypw G ops (zdm G own X Y early ops QS l) [⟨dst,.nilCheck x,ty,po,af,gd⟩] st):=za7 _ _ rfl
attribute [go_sem] zbf
end Go.Abs
namespace Go.Proofs.YthjmjdleecmaeaaGreat
open Go Go.Abs Go.Proofs.Tryz
theorem put_f (m:AMap) (n:Int) (x:AV):(m.put n x).f=upd2 m.f n x:=rfl
theorem put_b (m:AMap) (n:Int) (x:AV):(m.put n x).b n=m.stamp n:=by
 unfold AMap.put AMap.stamp
 simp only
 split<;>simp
theorem ypj (f:Int→Option AV) (n:Int) (x:AV):upd2 f n x n=some x:=by simp[upd2]
theorem ypk (f:Int→Option AV) (n:Int) (x y:AV):upd2 (upd2 f n x) n y=upd2 f n y:=by
 funext k
 unfold upd2
 by_cases h:k=n<;>simp[h]
def updO {α:Type} (f:Int→Option α) (n:Int) (x:α):Int→Option α:=fun k=>if k=n then some x else f k
theorem yj9 (f:Int→Option (List EntD)) (n:Int) (s:List EntD):upd2 (stA f) n (ents s)=stA (updO f n s):=by
 funext k
 unfold upd2 stA updO
 by_cases h:k=n<;>simp[h]
theorem errA_upd (f:Int→Option Int) (n:Int) (x:Int):upd2 (errA f) n (I x)=errA (updO f n x):=by
 funext k
 unfold upd2 errA updO
 by_cases h:k=n<;>simp[h]
theorem yj8 (f:Int→Option (List EntD)) (n:Int):getM (stA f) (.lst 3 []) n=ents ((f n).getD []):=by
 unfold getM stA
 cases f n<;>rfl
def yke (t:Tab) (n:Int):List EntD:=(t.after n).getD []
def zeh (l:List Evt) (t:Tab) (e:Evt):List (List EntD):=e.prev.map (yke t)
noncomputable def addT (l:List Evt) (t:Tab) (e:Evt):Tab :=
 let s:=yf4 l (zeh l t e)
 let v:=yp4 l t.errs e s
 ⟨updO t.before e.id s,updO t.after e.id (if v=0∧1≤e.kind∧e.kind≤10 then setOf s e.kind e.key e.id else s),updO t.errs e.id v⟩
structure TabOk (l:List Evt) (t:Tab):Prop where
 after:∀ n s,t.after n=some s→StOk l s
theorem add_sem {G:Ctx} (hG:G.P=prog) {st:St} {dst:Option Tmp} {K:St→Prop} {v:Nat} {l:List Evt} {t:Tab} {e:Evt} (hd:dstOK G.n dst) (hl:Good l) (he:getE l e.id=some e) (ht:TabOk l t) (hp10:e.prev.length≤14) (hv:st.ver 20=v) (v16 v17 v18:Nat) (h16:st.ver 16=v16) (h17:st.ver 17=v17) (h18:st.ver 18=v18) (hb:st.h 20=.box [.ref 16 v16,.ref 17 v17,.ref 18 v18])
 (mB mA mE:AMap) (g16:st.h 16=.amap mB) (g17:st.h 17=.amap mA) (g18:st.h 18=.amap mE) (fB:mB.f=stA t.before) (fA:mA.f=stA t.after) (fE:mE.f=errA t.errs)
 (hK:∀ s (mB' mA' mE':AMap),s.ver 20=v→s.ver 16=v16→s.ver 17=v17→s.ver 18=v18→s.h 20=.box [.ref 16 v16,.ref 17 v17,.ref 18 v18]→s.h 16=.amap mB'→s.h 17=.amap mA'→s.h 18=.amap mE' →
  mB'.f=stA (addT l t e).before→mA'.f=stA (addT l t e).after→mE'.f=errA (addT l t e).errs→K ((st.mem s).put dst (.tup []))) :
 CallSem G 32 [.rptr 20 v 0 0,evs l,ev e] dst K st:=by
 obtain⟨P,w0,S0,nn,rnd,ids,e0⟩:=G
 subst hG
 have heml:e∈l:=List.mem_of_find?_eq_some he
 refine CallSem.inline 20000 func32 rfl rfl ntmps32 (congrArg Array.toList results32) (by simp) hd fun e1=>AWp.of_vc [1000007,1000010] ?_
 simp[go_sem]
 refine AWp.ownNil 6 28 1 (by simp[go_sem]) ?_
 obtain⟨Z,hZ⟩:∃ Z,(zeh l t e).map ents=Z:=⟨_,rfl⟩
 have hZl:Z.length=e.prev.length:=by rw[← hZ];simp[zeh]
 have hZs:∀ q,(h:q < e.prev.length)→Z.take (q+1)=Z.take q++[ents (yke t e.prev[q])]:=fun q h=>by
  rw[List.take_succ_eq_append_getElem (by omega)]
  congr 1
  simp[← hZ,zeh]
 refine AWp.loop_vc [] (fun m s=>∃ q w:Nat,q≤e.prev.length∧m=e.prev.length - q∧s.σ 0=.rptr 20 v 0 0∧s.σ 1=evs l∧s.σ 5=.eptr (evc e) 0∧s.σ 12=ints e.prev∧s.σ 13=I e.prev.length∧s.σ 14=I q∧s.σ 6=.ref 20006 w∧s.ver 20006=w∧s.h 20006=.arr 28 1 (Z.take q) ∧
  s.ver 20=v∧s.ver 16=v16∧s.ver 17=v17∧s.ver 18=v18∧s.h 20=.box [.ref 16 v16,.ref 17 v17,.ref 18 v18]∧s.h 16=.amap mB∧s.h 17=.amap mA∧s.h 18=.amap mE) e.prev.length ⟨0,by simp[go_sem,hv,h16,h17,h18,hb,g16,g17,g18]⟩ ?_
 rintro m s ⟨q,w,hq,rfl,i0,i1,i5,i12,i13,i14,i6,jv,jh,j20,j16,j17,j18,k20,k16,k17,k18⟩
 have hws:IntKind.i64.wrap ((q:Int)+1)=(q:Int)+1:=wrapB (by omega) (by omega)
 by_cases hlt:q < e.prev.length
 · have hsu:=hZs q hlt
   obtain⟨x,hx⟩:∃ x,e.prev[q]=x:=⟨_,rfl⟩
   rw[hx]at hsu
   have hbl:(Z.take q).length=q:=by rw[List.length_take];omega
   have hget:=yj8 t.after x
   simp[go_sem,i0,i1,i5,i12,i13,i14,i6,jv,jh,j20,j16,j17,j18,k20,k16,k17,k18,hlt,hx,yrr,fA,hget,hws,-List.length_take]
   rw[hbl]
   refine⟨⟨by omega,by omega⟩,e.prev.length - (q+1),by omega,q+1,by omega,rfl,by omega,?_⟩
   rw[hsu]
   rfl
 have htk:Z.take q=Z:=List.take_of_length_le (by omega)
 rw[htk]at jh
 simp[go_sem,i0,i1,i5,i12,i13,i14,i6,jv,jh,j20,j16,j17,j18,k20,k16,k17,k18,hlt]
 refine AWp.freeze 20006 ?_
 refine AWp.region [] ?_
 have hbs:∀ s∈zeh l t e,StOk l s:=fun s hs=>by
  unfold zeh at hs
  obtain⟨n,_,rfl⟩:=List.mem_map.1 hs
  unfold yke
  cases hn:t.after n with
  | none=>exact .nil l
  | some s=>exact ht.after n s hn
 obtain⟨R,hR⟩:∃ R,yf4 l (zeh l t e)=R:=⟨_,rfl⟩
 have hRok:StOk l R:=hR ▸ yf6 hbs
 have hrac:=yf5 l (zeh l t e) hl (by unfold zeh;rw[List.length_map];exact hp10) hbs
 unfold ykh at hrac
 rw[hZ,hR]at hrac
 simp[go_sem,i0,i1,i5,i6,jv,jh,j20,j16,j17,j18,k20,k16,k17,k18]
 refine cpu hrac ?_
 simp[go_sem,i0,i1,i5,i6,jv,jh,j20,j16,j17,j18,k20,k16,k17,k18]
 obtain⟨V,hV⟩:∃ V,yp4 l t.errs e R=V:=⟨_,rfl⟩
 have hvac:=yp5 l t e R hl heml hRok
 rw[hV]at hvac
 refine CallSem.lent (r:=I V) ?_ (zlr _) (by simp[go_sem]) ?_
 · have hbo:∀ s1:St,s1.ver 20=v→s1.ver 16=v16→s1.ver 17=v17→s1.ver 18=v18→s1.h 20=.box [.ref 16 v16,.ref 17 v17,.ref 18 v18]→s1.h 16=.amap mB→s1.h 17=.amap mA→s1.h 18=.amap mE→ze9 s1 (.rptr 20 v 0 0)=.eptr (tabC t) 0:=by
    intro s1 a1 a2 a3 a4 a5 a6 a7 a8
    simp[ze9,zfc,zfa,a1,a2,a3,a4,a5,a6,a7,a8,tabC,fB,fA,fE]
   have h1:=hbo s j20 j16 j17 j18 k20 k16 k17 k18
   simp only[List.map_cons,List.map_nil]
   rw[hbo _ (by simp[go_sem,j20]) (by simp[go_sem,j16]) (by simp[go_sem,j17]) (by simp[go_sem,j18]) (by simp[go_sem,k20]) (by simp[go_sem,k16]) (by simp[go_sem,k17]) (by simp[go_sem,k18])]
   exact hvac
 simp[go_sem,i0,i1,i5,i6,jv,jh,j20,j16,j17,j18,k20,k16,k17,k18]
 refine AWp.drawText [] [16,17,18] [] [] rfl (by kernel_rfl) (fun d d' h=>by simp;omega) ?_
 simp[go_sem,i0,i1,i5,i6,jv,jh,j20,j16,j17,j18,k20,k16,k17,k18]
 refine⟨e.id,by rw[put_f,ypj];rfl,by rw[put_b],e.id,by rw[put_f,ypj];rfl,by rw[put_b],e.id,by rw[put_f,ypj];rfl,by rw[put_b],?_⟩
 obtain⟨B1,hB1⟩:∃ B1,(mB.put e.id ((mB.f e.id).getD (.v (.slice none 0 0)))).put e.id (.lst 3 (R.map ent))=B1:=⟨_,rfl⟩
 obtain⟨A1,hA1⟩:∃ A1,(mA.put e.id ((mA.f e.id).getD (.v (.slice none 0 0)))).put e.id (.lst 3 (R.map ent))=A1:=⟨_,rfl⟩
 obtain⟨E1,hE1⟩:∃ E1,(mE.put e.id ((mE.f e.id).getD (.v (.int .i64 0)))).put e.id (.v (.int .i64 V))=E1:=⟨_,rfl⟩
 have fB1:B1.f=stA (updO t.before e.id R):=by rw[← hB1,put_f,put_f,ypk,fB];exact yj9 _ _ _
 have fA1:A1.f=stA (updO t.after e.id R):=by rw[← hA1,put_f,put_f,ypk,fA];exact yj9 _ _ _
 have fE1:E1.f=errA (updO t.errs e.id V):=by rw[← hE1,put_f,put_f,ypk,fE];exact errA_upd _ _ _
 rw[hB1,hA1,hE1]
 have hb':(addT l t e).before=updO t.before e.id R:=by unfold addT;simp only[hR]
 have he':(addT l t e).errs=updO t.errs e.id V:=by unfold addT;simp only[hR,hV]
 have ha':(addT l t e).after=updO t.after e.id (if V=0∧1≤e.kind∧e.kind≤10 then setOf R e.kind e.key e.id else R):=by unfold addT;simp only[hR,hV]
 refine AWp.region [] ?_
 by_cases c:V=0∧1≤e.kind∧e.kind≤10
 · obtain⟨c1,c2,c3⟩:=c
   rw[if_pos ⟨c1,c2,c3⟩]at ha'
   simp[go_sem,i0,i1,i5,i6,jv,jh,j20,j16,j17,j18,k20,k16,k17,k18,c1,c2,c3]
   refine AWp.drawText [] [17] [] [] rfl (by kernel_rfl) (fun d d' h=>by simp;omega) ?_
   simp[go_sem,i0,i1,i5,i6,jv,jh,j20,j16,j17,j18,k20,k16,k17,k18]
   have hRl:=hRok.len
   have hll:=hl.fit.len
   refine CalmThen.pure (yin R e.kind e.key e.id (by omega)) rfl ?_
   simp[go_sem,keyQ,i0,i1,i5,i6,jv,jh,j20,j16,j17,j18,k20,k16,k17,k18]
   refine PostIn.normal (r:=.tup []) (by simp[go_sem,resIn]) ?_
   refine hK _ B1 (A1.put e.id (ents (setOf R e.kind e.key e.id))) E1 (by simp[go_sem,j20]) (by simp[go_sem,j16]) (by simp[go_sem,j17]) (by simp[go_sem,j18]) (by simp[go_sem,k20]) (by simp[go_sem]) (by simp[go_sem]) (by simp[go_sem]) (by rw[fB1,hb']) ?_ (by rw[fE1,he'])
   rw[put_f,fA1,ha',yj9]
   congr 1
   funext k
   unfold updO
   by_cases h:k=e.id<;>simp[h]
 · rw[if_neg c]at ha'
   have fin:∀ s2:St,s2.ver 20=v→s2.ver 16=v16→s2.ver 17=v17→s2.ver 18=v18→s2.h 20=.box [.ref 16 v16,.ref 17 v17,.ref 18 v18]→s2.h 16=.amap B1→s2.h 17=.amap A1→s2.h 18=.amap E1→K ((st.mem s2).put dst (.tup [])) :=
    fun s2 a1 a2 a3 a4 a5 a6 a7 a8=>hK s2 B1 A1 E1 a1 a2 a3 a4 a5 a6 a7 a8 (by rw[fB1,hb']) (by rw[fA1,ha']) (by rw[fE1,he'])
   by_cases c1:V=0
   · by_cases c2:1≤e.kind
     · have c3:¬ e.kind≤10:=fun h=>c ⟨c1,c2,h⟩
       simp[go_sem,i0,i1,i5,i6,jv,jh,j20,j16,j17,j18,k20,k16,k17,k18,c1,c2,c3]
       refine PostIn.normal (r:=.tup []) (by simp[go_sem,resIn]) ?_
       exact fin _ (by simp[go_sem,j20]) (by simp[go_sem,j16]) (by simp[go_sem,j17]) (by simp[go_sem,j18]) (by simp[go_sem,k20]) (by simp[go_sem]) (by simp[go_sem]) (by simp[go_sem])
     · simp[go_sem,i0,i1,i5,i6,jv,jh,j20,j16,j17,j18,k20,k16,k17,k18,c1,c2]
       refine PostIn.normal (r:=.tup []) (by simp[go_sem,resIn]) ?_
       exact fin _ (by simp[go_sem,j20]) (by simp[go_sem,j16]) (by simp[go_sem,j17]) (by simp[go_sem,j18]) (by simp[go_sem,k20]) (by simp[go_sem]) (by simp[go_sem]) (by simp[go_sem])
   · have g1:(V==0)=false:=beq_eq_false_iff_ne.2 c1
     simp[go_sem,i0,i1,i5,i6,jv,jh,j20,j16,j17,j18,k20,k16,k17,k18,c1,g1]
     refine PostIn.normal (r:=.tup []) (by simp[go_sem,resIn]) ?_
     exact fin _ (by simp[go_sem,j20]) (by simp[go_sem,j16]) (by simp[go_sem,j17]) (by simp[go_sem,j18]) (by simp[go_sem,k20]) (by simp[go_sem]) (by simp[go_sem]) (by simp[go_sem])
theorem zk6 {f:Nat→Int} {n:Nat} (h:zk2 f n=0):∀ j,j < n→f j=0:=fun j hj=>by
 unfold zk2 at h
 cases hf:(List.range n).find? (fun j=>f j != 0) with
 | none =>
  rw[List.find?_eq_none]at hf
  have:=hf j (List.mem_range.2 hj)
  simpa using this
 | some k =>
  rw[hf]at h
  have:=List.find?_some hf
  simp only at h
  rw[h]at this
  simp at this
theorem yky {l:List Evt} (h:yku l=0):l.length≤2000∧(∀ e∈l,yp6 e=0)∧(∀ e∈l,e.room=(l.getD 0 evZ).room)∧∀ j,0 < j→j < l.length→(l.getD (j - 1) evZ).id < (l.getD j evZ).id:=by
 unfold yku at h
 by_cases c0:2000 < l.length
 · rw[if_pos c0]at h;simp at h
 rw[if_neg c0]at h
 by_cases c1:zk2 (verAt l) l.length=0
 case neg=>rw[if_pos c1]at h;exact absurd h c1
 rw[if_neg (not_not_intro c1)]at h
 by_cases c2:zk2 (yge l) l.length=0
 case neg=>rw[if_pos c2]at h;exact absurd h c2
 rw[if_neg (not_not_intro c2)]at h
 refine⟨by omega,fun e he=>?_,fun e he=>?_,fun j hj hjl=>?_⟩
 · obtain⟨j,hj,rfl⟩:=List.mem_iff_getElem.1 he
   have:=zk6 c1 j hj
   unfold verAt at this
   simpa [List.getD,hj] using this
 · obtain⟨j,hj,rfl⟩:=List.mem_iff_getElem.1 he
   have:=zk6 c2 j hj
   unfold yge at this
   by_cases hr:(l.getD j evZ).room=(l.getD 0 evZ).room
   · simpa [List.getD,hj] using hr
   · rw[if_neg hr]at this;simp at this
 · have:=zk6 h j hjl
   unfold idAt at this
   by_cases hr:(l.getD j evZ).id≤(l.getD (j - 1) evZ).id
   · rw[if_pos ⟨hj,hr⟩]at this;simp at this
   · omega
theorem yp8 {e:Evt} (h:yp6 e=0):e.prev.length≤10∧e.auth.length≤8:=by
 have h1:zgg e=0:=by
  unfold yp6 at h
  by_cases c:zgg e=0
  · exact c
  · rw[if_pos c]at h;exact absurd h c
 unfold zgg at h1
 by_cases c1:bad1 e=true
 · rw[if_pos c1]at h1;simp at h1
 rw[if_neg c1]at h1
 by_cases c2:zr2 e=false
 · rw[if_pos c2]at h1;simp at h1
 rw[if_neg c2]at h1
 by_cases c3:e.time < 0∨1000000000 < e.time∨e.depth < 1∨100000 < e.depth
 · rw[if_pos c3]at h1;simp at h1
 rw[if_neg c3]at h1
 by_cases c4:10 < e.prev.length∨8 < e.auth.length
 · rw[if_pos c4]at h1;simp at h1
 omega
def tab0:Tab:=⟨fun _=>none,fun _=>none,fun _=>none⟩
noncomputable def addId (l:List Evt) (t:Tab) (id:Int):Tab:=addT l t ((getE l id).getD evZ)
noncomputable def tabAt (l:List Evt) (q:Nat):Tab:=((zvc l).take q).foldl (addId l) tab0
theorem yol {l:List Evt} {q:Nat} (h:q < (zvc l).length):tabAt l (q+1)=addId l (tabAt l q) (zvc l)[q]:=by
 unfold tabAt
 rw[List.take_succ_eq_append_getElem h,List.foldl_append];rfl
noncomputable def runT (l:List Evt):Option Tab:=if yku l≠0 then none else if zh9 l≠0 then none else some (tabAt l (zvc l).length)
def runAV:Option Tab→AV
 | none=>.v (.pointer none)
 | some t=>.eptr (tabC t) 0
theorem zzc (o:Option Tab):Pure (runAV o):=by
 cases o with
 | none=>exact zzh _
 | some t=>exact zyf (zzg t)
theorem zxq (o:Option Tab):PureR (runAV o):=by
 cases o with
 | none=>exact zzh _
 | some t=>exact zyf (zzg t)
theorem zve {l:List Evt} {n:Int} (h:n∈zvc l):∃ e,getE l n=some e∧e.id=n:=by
 unfold zvc at h
 obtain⟨x,hx,rfl⟩:=List.mem_map.1 h
 have hx':=(zox l).mem_iff.1 hx
 cases hg:getE l x.id with
 | none =>
  unfold getE at hg
  rw[List.find?_eq_none]at hg
  exact absurd (hg x hx') (by simp)
 | some e=>exact⟨e,rfl,by have:=List.find?_some hg;simpa using this⟩
theorem addT_ok {l:List Evt} {t:Tab} {e:Evt} (ht:TabOk l t) (he:getE l e.id=some e):TabOk l (addT l t e):=by
 have hbs:∀ s∈zeh l t e,StOk l s:=fun s hs=>by
  unfold zeh at hs
  obtain⟨n,_,rfl⟩:=List.mem_map.1 hs
  unfold yke
  cases hn:t.after n with
  | none=>exact .nil l
  | some s=>exact ht.after n s hn
 have hR:=yf6 hbs
 refine⟨fun n s hs=>?_⟩
 unfold addT updO at hs
 simp only at hs
 by_cases hn:n=e.id
 · rw[if_pos hn]at hs
   simp only[Option.some.injEq]at hs
   rw[← hs]
   split
   · exact hR.set he
   · exact hR
 · rw[if_neg hn]at hs
   exact ht.after n s hs
theorem yok (l:List Evt):∀ q,TabOk l (tabAt l q)
 | 0=>⟨fun n s h=>by simp[tabAt,tab0]at h⟩
 | q+1=>by
  by_cases h:q < (zvc l).length
  · rw[yol h]
    obtain⟨e,he,hid⟩:=zve (List.getElem_mem h)
    unfold addId
    rw[he]
    exact addT_ok (yok l q) (by simp only[Option.getD_some];rw[hid];exact he)
  · have:tabAt l (q+1)=tabAt l q:=by unfold tabAt;rw[List.take_of_length_le (by omega),List.take_of_length_le (by omega)]
    rw[this];exact yok l q
theorem yg0 (l:List Evt) (hl:Good l):AC prog 15 [evs l] (runAV (runT l)):=by
 refine AC.ob func15 ntmps15 results15 (zzi (zyk _)) (zxq _) fun w S'=>AWp.of_vc [16,17,18,20,1000004] ?_
 have hll:=hl.fit.len
 obtain⟨r,hr⟩:∃ r,runT l=r:=⟨_,rfl⟩
 rw[hr]
 unfold runT at hr
 simp[go_sem]
 refine cpu (yhz l hl.ok.sm) ?_
 by_cases c1:yku l=0
 case neg =>
  have g1:(yku l != 0)=true:=bne_iff_ne.2 c1
  rw[if_pos c1]at hr
  rw[← hr]
  simp[go_sem,c1,g1]
  refine PostR.ret ?_
  simp[go_sem,runAV]
 rw[if_neg (not_not_intro c1)]at hr
 rw[c1]
 simp[go_sem]
 refine cpu (zia l hl.fit) ?_
 by_cases c2:zh9 l=0
 case neg =>
  have g1:(zh9 l != 0)=true:=bne_iff_ne.2 c2
  rw[if_pos c2]at hr
  rw[← hr]
  simp[go_sem,c2,g1]
  refine PostR.ret ?_
  simp[go_sem,runAV]
 rw[if_neg (not_not_intro c2)]at hr
 rw[c2,← hr]
 obtain⟨p1,p2,p3,p4⟩:=yky c1
 have hol:(zvc l).length=l.length:=by unfold zvc;rw[List.length_map,zow]
 simp[go_sem]
 refine AWp.amapNew 16 (clk:=0) (by simp[go_sem]) ?_
 refine AWp.amapNew 17 (clk:=0) (by simp[go_sem]) ?_
 refine AWp.amapNew 18 (clk:=0) (by simp[go_sem]) ?_
 refine AWp.region [] ?_
 simp[go_sem]
 refine cpu (order_ac l (by omega)) ?_
 simp[go_sem]
 obtain⟨O,hO⟩:∃ O,zvc l=O:=⟨_,rfl⟩
 rw[hO]at hol
 refine AWp.loop_vc [16,17,18,20] (fun m s=>∃ (q:Nat) (mB mA mE:AMap),q≤O.length∧m=O.length - q∧s.σ 0=evs l∧s.σ 3=.rptr 20 1 0 0∧s.σ 22=ints O∧s.σ 23=I O.length∧s.σ 24=I q∧s.ver 20=1∧s.ver 16=1∧s.ver 17=1∧s.ver 18=1 ∧
  s.h 20=.box [.ref 16 1,.ref 17 1,.ref 18 1]∧s.h 16=.amap mB∧s.h 17=.amap mA∧s.h 18=.amap mE∧mB.f=stA (tabAt l q).before∧mA.f=stA (tabAt l q).after∧mE.f=errA (tabAt l q).errs) O.length ⟨0,AMap.new 0,AMap.new 0,AMap.new 0,by simp[go_sem,hO,upd];exact⟨rfl,rfl,rfl⟩⟩ ?_
 rintro m s ⟨q,mB,mA,mE,hq,rfl,i0,i3,i22,i23,i24,j20,j16,j17,j18,k20,k16,k17,k18,fB,fA,fE⟩
 have hws:IntKind.i64.wrap ((q:Int)+1)=(q:Int)+1:=wrapB (by omega) (by omega)
 by_cases hlt:q < O.length
 · obtain⟨x,hx⟩:∃ x,O[q]=x:=⟨_,rfl⟩
   have hsu:=yol (l:=l) (q:=q) (by rw[hO];exact hlt)
   simp only[hO]at hsu
   rw[hx]at hsu
   obtain⟨e,he,hid⟩:=zve (l:=l) (n:=x) (by rw[hO,← hx];exact List.getElem_mem hlt)
   unfold addId at hsu
   rw[he,Option.getD_some]at hsu
   have hel:e∈l:=List.mem_of_find?_eq_some he
   simp[go_sem,i0,i3,i22,i23,i24,j20,j16,j17,j18,k20,k16,k17,k18,hlt,hx]
   refine cpu (yi1 l x) ?_
   rw[he]
   simp[go_sem,i0,i3,i22,i23,i24,j20,j16,j17,j18,k20,k16,k17,k18,hlt,hx]
   refine add_sem rfl (v:=1) (t:=tabAt l q) (by simp[go_sem]) hl (by rw[hid];exact he) (yok l q) (by have:=(yp8 (p2 e hel)).1;omega) (by simp[go_sem,j20]) 1 1 1 (by simp[go_sem,j16]) (by simp[go_sem,j17]) (by simp[go_sem,j18]) (by simp[go_sem,k20]) mB mA mE (by simp[go_sem,k16]) (by simp[go_sem,k17]) (by simp[go_sem,k18]) fB fA fE ?_
   intro s2 mB2 mA2 mE2 a20 a16 a17 a18 b20 b16 b17 b18 gB gA gE
   simp[go_sem,i0,i3,i22,i23,i24,a20,a16,a17,a18,b20,b16,b17,b18,hws]
   refine⟨O.length - (q+1),by omega,q+1,by omega,rfl,by omega,?_,?_,?_⟩
   · rw[gB,hsu]
   · rw[gA,hsu]
   · rw[gE,hsu]
 · simp[go_sem,i0,i3,i22,i23,i24,j20,j16,j17,j18,k20,k16,k17,k18,hlt]
   have hqe:q=O.length:=by omega
   subst hqe
   refine PostR.retW [16,17,18,20] (r0:=.eptr (tabC (tabAt l (zvc l).length)) 0) ?_ (.refl _)
   rw[hO]
   simp[go_sem,i3,j20,j16,j17,j18,k20,k16,k17,k18,tabC,fB,fA,fE]
   rfl
end Go.Proofs.YthjmjdleecmaeaaGreat
