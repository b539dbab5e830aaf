/- Several texts of the proof in one: C1, C2, C3, H3. No condition. -/
import Derived.Test.YthjmjdleecmaeaaGreatL26
import Derived.Test.YthjmjdleecmaeaaGreatL31
set_option linter.unusedSimpArgs false
set_option linter.unusedVariables false
set_option maxHeartbeats 4000000
set_option maxRecDepth 8000
namespace Go.Proofs.YthjmjdleecmaeaaGreat
open Go Go.Abs Go.Proofs.Tryz
theorem zsv (l:List Int) (hsz:l.length≤1000000000):AC prog 140 [ints l] (.fresh 3 1 ((yjl l).map I)):=by
 refine AC.ob func140 ntmps140 results140 (zzi (zyr _)) (zxd _ _) fun w S'=>AWp.of_vc [] ?_
 simp[go_sem]
 refine cpu (zgl l hsz) ?_
 simp[go_sem]
 refine CallSem.sortInts (ρ:=laysSort_ren) (id:=5) (e:=3) (l:=l) laysSort ⟨_,func114,rfl,rfl⟩ (by simp[go_sem]) (by simp[go_sem,Function.comp_def];try rfl) (by simp[go_sem]) (by omega) ?_
 simp[go_sem]
 refine CallSem.compactInts (ρ:=laysCompact_ren) (id:=5) (e:=3) (l:=l.mergeSort fun x y=>decide (x≤y)) laysCompact ⟨_,func209,rfl,rfl⟩ (by simp[go_sem]) (by simp[go_sem]) (by simp[go_sem]) (zg9 _) ?_
 simp[go_sem]
 refine PostR.ret ?_
 simp[go_sem,yjl]
def yjy (a:EntD→Bool) (l:List (List EntD)):AV:=.tup [ents (sameO a l l.length),.fresh 3 1 ((yjh (idsO a l l.length)).map I)]
theorem zxt (a:EntD→Bool) (l:List (List EntD)):PureR (yjy a l):=by
 intro r hr
 simp only[List.mem_cons,List.not_mem_nil,or_false]at hr
 rcases hr with rfl|rfl
 · exact zye _
 · exact zxd 3 _
theorem yjz (l:List (List EntD)) (hn:l.length≤1000) (hs:∀ s∈l,s.length≤1000):AC prog 143 [ykh l] (yjy (allOf l) l):=by
 refine AC.ob func143 ntmps143 results143 (zzi (zze _)) (zxt _ _) fun w S'=>AWp.of_vc [] ?_
 have hm:l.length≤maxLen:=by unfold maxLen;omega
 have hinj:∀ d d':Nat,d≠d'→d≠d':=fun _ _ h=>h
 simp[go_sem]
 refine AWp.ownNilBox 4 33 62 3 (by simp[go_sem]) (by decide) ?_
 refine AWp.ownNilBox 5 27 3 1 (by simp[go_sem]) (by decide) ?_
 refine AWp.loop_vc [] (fun m s=>∃ k v w:Nat,k≤l.length∧m=l.length - k∧s.σ 1=.eptr [ykh l] 0∧s.σ 4=.rptr 4 1 0 0∧s.ver 4=1∧s.h 4=.box [.ref 33 v]∧s.ver 33=v∧s.h 33=.arr 62 3 ((sameO (allOf l) l k).map ent) ∧
  s.σ 5=.rptr 5 1 0 0∧s.ver 5=1∧s.h 5=.box [.ref 27 w]∧s.ver 27=w∧s.h 27=.arr 3 1 ((idsO (allOf l) l k).map I)∧s.σ 9=ykh l∧s.σ 10=I l.length∧s.σ 11=I k∧(idsO (allOf l) l k).length≤1000 * k∧(sameO (allOf l) l k).length≤1000) l.length ⟨0,1,1,by simp[go_sem,sameO,idsO]⟩ ?_
 rintro m s ⟨k,v,w',hk,rfl,h1,h4,v4,b4,v33,a33,h5,v5,b5,v27,a27,h9,h10,h11,hli,hls⟩
 by_cases hlt:k < l.length
 · have hsk:l[k].length≤1000:=hs _ (List.getElem_mem hlt)
   simp[go_sem,h1,h4,h5,h9,h10,h11,hlt]
   refine cpu (zij l[k]) ?_
   simp[go_sem,h1,h4,h5,h9,h10,h11,hlt]
   refine yfl (s:=l[k]) 19999 (by decide) (by simp[go_sem]) rfl (by simp) (by unfold maxLen;omega) (fun q s1=>∃ v w:Nat,s1.ver 4=1∧s1.h 4=.box [.ref 33 v]∧s1.ver 33=v∧s1.h 33=.arr 62 3 ((if k=0 then (l[k].take q).filter (allOf l) else sameO (allOf l) l k).map ent) ∧
    s1.ver 5=1∧s1.h 5=.box [.ref 27 w]∧s1.ver 27=w∧s1.h 27=.arr 3 1 ((idsO (allOf l) l k++idsS (allOf l) (l[k].take q)).map I)∧s1.ver 6=s.ver 6+1∧s1.h 6=.box [I k]) ?_ ⟨v,w',by by_cases hk0:k=0<;>simp[go_sem,v4,b4,v33,a33,v5,b5,v27,a27,idsS,sameO,hk0]⟩ ?_ ?_
   · rintro q s1 s2 ⟨v,w,g1,g2,g3,g4,g5,g6,g7,g8,g9,g10⟩ hσ hag
     have a4:=hag 4 (by decide) (by decide)
     have a33:=hag 33 (by decide) (by decide)
     have a5:=hag 5 (by decide) (by decide)
     have a27:=hag 27 (by decide) (by decide)
     have a6:=hag 6 (by decide) (by decide)
     exact⟨v,w,a4.1.trans g1,a4.2.trans g2,a33.1.trans g3,a33.2.trans g4,a5.1.trans g5,a5.2.trans g6,a27.1.trans g7,a27.2.trans g8,a6.1.trans g9,a6.2.trans g10⟩
   · rintro q hq s1 L r V e0 ⟨v,w,g1,g2,g3,g4,g5,g6,g7,g8,g9,g10⟩ hσ hV hR
     have hl1:=zny (allOf l) (l[k].take q)
     have hl2:(List.filter (allOf l) (l[k].take q)).length≤1000:=by
      have:=List.length_filter_le (allOf l) (l[k].take q)
      simp only[List.length_take]at this;omega
     simp only[List.length_take]at hl1
     have hids:=znz (allOf l) hq
     have hsm:=zkc (allOf l) _ _ hq
     refine AWp.of_vc [8,27,33] ?_
     simp[go_sem,hV,hR]
     intro e1
     refine AWp.of_vc [8,27,33] ?_
     simp[go_sem,hV,hR,h1]
     refine cpu (all_ac l l[k][q]) ?_
     cases ha:allOf l l[k][q] with
     | false =>
      rw[ha]at hids hsm
      simp at hids hsm
      simp[go_sem,hV,hR,h5,g1,g2,g3,g4,g5,g6,g7,g8,g9,g10,hids,hsm]
      omega
     | true =>
      rw[ha]at hids hsm
      simp at hids hsm
      have h6:True:=trivial
      by_cases hk0:k=0
      · subst hk0
        simp[go_sem,hV,hR,h4,g1,g2,g3,g4,g5,g6,g7,g8,g9,g10,hids,hsm]
        omega
      · have hk0':¬ (k:Int)=0:=by omega
        simp[go_sem,hV,hR,h4,g1,g2,g3,g4,g5,g6,g7,g8,g9,g10,hids,hsm,hk0,hk0']
   · rintro s1 ⟨v,w,g1,g2,g3,g4,g5,g6,g7,g8,g9,g10⟩ hσ
     rw[List.take_length]at g4 g8
     simp[go_sem,hσ,h1,h4,h5,h9,h10,h11,yro hlt hm]
     refine⟨l.length - (k+1),by omega,k+1,by omega,rfl,g1,v,g2,g3,?_,g5,w,g6,g7,?_,rfl,?_,?_⟩
     · rw[g4]
       congr 2
       by_cases hk0:k=0
       · subst hk0;simp[sameO,List.getD,hlt]
       · simp[sameO,hk0]
     · rw[g8,znx _ hlt]
     · rw[znx _ hlt,List.length_append]
       have:=zny (allOf l) l[k]
       omega
     · have h0:(l.getD 0 []).length≤1000:=by
        have hl0:0 < l.length:=by omega
        simp only[List.getD,List.getElem?_eq_getElem hl0,Option.getD_some]
        exact hs _ (List.getElem_mem hl0)
       unfold sameO
       rw[if_neg (by omega)]
       exact Nat.le_trans (List.length_filter_le _ _) h0
 · have hk':k=l.length:=by omega
   subst hk'
   simp[go_sem,h1,h4,h5,h9,h10,h11]
   refine AWp.freeze 33 ?_
   refine AWp.freeze 27 ?_
   refine AWp.drawText [37] [37] [] [] rfl (by kernel_rfl) hinj ?_
   simp[go_sem,h1,h4,h5,v4,b4,v33,a33,v5,b5,v27,a27]
   refine OwnCall.fresh (zsv (idsO (allOf l) l l.length) (by omega)) (by simp) ?_
   simp[go_sem]
   refine PostR.ret ?_
   simp[go_sem,yjy,yjm]
def eids (s:List EntD):List Int:=s.map (·.id)
noncomputable def zgp (l:List Evt) (s:List EntD):List Int:=yjl (eids s++zf9 l (eids s))
theorem zli:FlatR (ints []):=by
 intro E E' x hx
 unfold ints at *
 cases hx with
 | lst _ _ b off cap u h0 h1 h2 h3 h4 h5=>exact .lstNo _ _ _ h2
 | lstNil=>exact .lstNil _
 | lstNo _ _ _ hc=>exact .lstNo _ _ _ hc
theorem zgy (l:List Evt) (s:List EntD) (hl:Fit l) (hsz:s.length≤1000):AC prog 245 [evs l,ents s] (ints (zgp l s)):=by
 refine AC.ob func245 ntmps245 results245 (zzj (zyk _) (zye _)) (zxe _) fun w S'=>AWp.of_vc [] ?_
 have hm:s.length≤maxLen:=by unfold maxLen;omega
 have hei:(eids s).length=s.length:=by simp[eids]
 simp[go_sem]
 refine⟨⟨by omega,by omega⟩,?_⟩
 refine AWp.loop_vc [] (fun m st=>∃ (k v:Nat),m=s.length - k∧k≤s.length∧st.σ 0=evs l∧st.σ 5=.ref 11 v∧st.ver 11=v∧st.h 11=.arr 3 1 ((eids (s.take k)).map I)∧st.σ 12=ents s∧st.σ 13=I s.length∧st.σ 14=I k) s.length ⟨0,1,by simp[go_sem,eids]⟩ ?_
 rintro m st ⟨k,v,rfl,hk,h0,h5,hv,hh,h12,h13,h14⟩
 by_cases hlt:k < s.length
 · have hsu:eids (s.take (k+1))=eids (s.take k)++[s[k].id]:=by unfold eids;rw[List.take_succ_eq_append_getElem hlt,List.map_append];rfl
   have hkl:(eids (s.take k)).length≤1000:=by simp[eids];omega
   generalize eids (s.take k)=X at hh hsu hkl
   simp[go_sem,h0,h5,hv,hh,h12,h13,h14,hlt,yro hlt hm]
   exact⟨⟨by omega,by omega⟩,s.length - (k+1),by omega,k+1,rfl,by omega,by rw[hsu];simp[I],rfl⟩
 · rw[List.take_of_length_le (by omega)]at hh
   unfold zgp
   have hac:=zga l (eids s) hl (by omega)
   have hcl:(zf9 l (eids s)).length≤l.length:=yfo _ _ _
   have hll:=hl.len
   generalize zf9 l (eids s)=C at hac hcl ⊢
   generalize eids s=X at hh hei hac ⊢
   have htk:List.take X.length (List.map I X)=X.map I:=List.take_of_length_le (by simp)
   simp[go_sem,h0,h5,hv,hh,h12,h13,h14,hlt]
   by_cases hC:C=[]
   · subst hC
     have hac':AC prog 213 [evs l,.lst 1 (X.map I)] (ints []):=hac
     refine AWp.draw (n:=9) [] rfl (by kernel_rfl) ?_
     simp[go_sem,h0,h5,hv,hh,h12,h13,h14,hlt]
     refine CalmThen.lent (r:=ints []) (by simpa [go_sem,h0,h5,hv,hh] using hac') zli rfl ?_
     simp[go_sem,h0,h5,hv,hh,h12,h13,h14,hlt]
     refine⟨⟨by omega,by omega⟩,?_⟩
     refine CallSem.sortInts (ρ:=laysSort_ren) (id:=11) (e:=3) (l:=X) laysSort ⟨_,func114,rfl,rfl⟩ (by simp[go_sem,hv]) (by simp[go_sem,hv,Function.comp_def,htk];try rfl) (by simp[go_sem]) (by omega) ?_
     simp[go_sem]
     refine CallSem.compactInts (ρ:=laysCompact_ren) (id:=11) (e:=3) (l:=(X).mergeSort fun x y=>decide (x≤y)) laysCompact ⟨_,func209,rfl,rfl⟩ (by simp[go_sem,hv]) (by simp[go_sem,hv]) (by simp[go_sem]) (zg9 _) ?_
     simp[go_sem]
     refine PostR.retW [11] ?_ (.refl _)
     simp[go_sem,yjl]
   · refine AWp.freeze 11 ?_
     refine AWp.draw (n:=9) [] rfl (by kernel_rfl) ?_
     simp[go_sem,h0,h5,hv,hh,h12,h13,h14,hlt]
     refine CalmThen.pure hac rfl ?_
     simp[go_sem,h0,h5,hv,hh,h12,h13,h14,hlt]
     refine⟨⟨by omega,by omega⟩,fun h=>absurd h hC,fun _=>?_⟩
     refine CallSem.sortInts (ρ:=laysSort_ren) (id:=33) (e:=3) (l:=X++C) laysSort ⟨_,func114,rfl,rfl⟩ (by simp[go_sem,hv]) (by simp[go_sem,hv,Function.comp_def,htk];try rfl) (by simp[go_sem]) (by rw[List.length_append];omega) ?_
     simp[go_sem]
     refine CallSem.compactInts (ρ:=laysCompact_ren) (id:=33) (e:=3) (l:=(X++C).mergeSort fun x y=>decide (x≤y)) laysCompact ⟨_,func209,rfl,rfl⟩ (by simp[go_sem,hv]) (by simp[go_sem,hv]) (by simp[go_sem]) (zg9 _) ?_
     simp[go_sem]
     refine PostR.retW [33] ?_ (.refl _)
     simp[go_sem,yjl]
structure CntM (es:Array MapEntry) (clk:Nat) (L:List Int):Prop where
 int:intM es=true
 ok:mapOK es clk
 keys:zpg es
 cnt:∀ n,mget es n=if L.count n=0 then none else some (.int .i64 (L.count n:Int))
theorem CntM.nil:CntM #[] 0 []:=⟨rfl,zq5,zpi,fun n=>by simp[mget,findI]⟩
theorem CntM.get {es:Array MapEntry} {clk:Nat} {L:List Int} (h:CntM es clk L) (n:Int):(mget es n).getD (.int .i64 0)=.int .i64 (L.count n:Int):=by
 rw[h.cnt n]
 split
 · rename_i h0;rw[h0];rfl
 · rfl
theorem CntM.put {es:Array MapEntry} {clk:Nat} {L:List Int} (h:CntM es clk L) (n:Int):CntM (mput es clk n (.int .i64 ((L.count n:Int)+1))).1 (mput es clk n (.int .i64 ((L.count n:Int)+1))).2 (L++[n]):=by
 refine⟨yct _ _ _ _ h.int,zq4 h.ok _ _,zph h.int h.keys _ _,fun m=>?_⟩
 rw[ycs,List.count_append,List.count_singleton]
 by_cases g:n=m
 · subst g;simp
 · have g':¬ (n==m)=true:=by simpa using g
   rw[if_neg g,h.cnt m]
   have:(if (n==m)=true then 1 else 0)=0:=if_neg g'
   rw[this,Nat.add_zero]
theorem CntM.size {es:Array MapEntry} {clk:Nat} {L:List Int} (h:CntM es clk L):es.size≤L.length:=by
 have:=zsq h.keys (b:=L) fun n hn=>by
  obtain⟨e,he,rfl⟩:=List.mem_map.1 hn
  have h1:=zrl h.int h.keys he
  rw[h.cnt]at h1
  split at h1
  · cases h1
  · rename_i h0;exact List.count_pos_iff.1 (by omega)
 simpa using this
theorem CntM.val {es:Array MapEntry} {clk:Nat} {L:List Int} (h:CntM es clk L) {e:MapEntry} (he:e∈es.toList):e.key=.int .i64 (keyI e)∧e.val=.int .i64 (L.count (keyI e):Int)∧keyI e∈L:=by
 have h1:=zrl h.int h.keys he
 rw[h.cnt]at h1
 split at h1
 · cases h1
 · rename_i h0
   exact⟨zoo h.int he,(Option.some.inj h1).symm,List.count_pos_iff.1 (by omega)⟩
theorem CntM.mem {es:Array MapEntry} {clk:Nat} {L:List Int} (h:CntM es clk L) {n:Int} (hn:n∈L):∃ e∈es.toList,keyI e=n:=by
 have h1:=h.cnt n
 rw[if_neg (by have:=List.count_pos_iff.2 hn;omega)]at h1
 obtain⟨e,he,hk,_⟩:=zrk h.int h1
 exact⟨e,he,hk⟩
noncomputable def seqOf (l:List Evt) (ss:List (List EntD)):List Int:=ss.flatMap (zgp l)
def fewIn (L:List Int) (N:Nat) (n:Int):Bool:=decide ((L.count n:Int) < N)
noncomputable def zic (l:List Evt) (ss:List (List EntD)):List Int:=yjh ((seqOf l ss).filter (fewIn (seqOf l ss) ss.length))
theorem zgq (l:List Evt) (s:List EntD):(zgp l s).length≤s.length+l.length:=by
 obtain⟨h1,h2⟩:=yjo (eids s++zf9 l (eids s))
 have h3:=zsp (h1.imp fun h=>Int.ne_of_lt h) fun x hx=>(h2 x).1 hx
 rw[List.length_append]at h3
 have h4:(zf9 l (eids s)).length≤l.length:=yfo _ _ _
 have h5:(eids s).length=s.length:=by simp[eids]
 unfold zgp;omega
theorem yh4 (l:List Evt):∀ (ss:List (List EntD)) (M:Nat),(∀ s∈ss,s.length≤M)→(seqOf l ss).length≤(M+l.length) * ss.length
 | [],M,_=>by simp[seqOf]
 | s::ss,M,h=>by
  have ih:=yh4 l ss M fun x hx=>h x (List.mem_cons_of_mem _ hx)
  have h1:=zgq l s
  have h2:=h s (List.mem_cons_self ..)
  have e:seqOf l (s::ss)=zgp l s++seqOf l ss:=by simp[seqOf]
  rw[e,List.length_append,List.length_cons,Nat.mul_succ];omega
theorem yh5 (l:List Evt) {ss:List (List EntD)} {k:Nat} (h:k < ss.length):seqOf l (ss.take (k+1))=seqOf l (ss.take k)++zgp l ss[k]:=by
 unfold seqOf;rw[List.take_succ_eq_append_getElem h,List.flatMap_append];simp
theorem yjq {D:List Int} (hnd:D.Nodup) {R:List Int} (hR:R.Pairwise (· < ·)) (h:∀ n,n∈D↔n∈R):(D.mergeSort fun x y=>decide (x≤y))=R:=by
 have hs:(D.mergeSort fun x y=>decide (x≤y)).Pairwise (·≤·):=by
  have:=List.pairwise_mergeSort (le:=fun x y:Int=>decide (x≤y)) (fun a b c h1 h2=>by simp only[decide_eq_true_eq]at *;omega) (fun a b=>by simp only[Bool.or_eq_true,decide_eq_true_eq];omega) D
  exact this.imp fun h=>by simpa using h
 have hn:(D.mergeSort fun x y=>decide (x≤y)).Nodup:=(List.mergeSort_perm D _).nodup_iff.2 hnd
 have hl:(D.mergeSort fun x y=>decide (x≤y)).Pairwise (· < ·):=by
  have:=hs.and hn
  exact this.imp fun {a b} h=>by have h1:=h.1;have h2:a≠b:=h.2;omega
 exact yk0 hl hR fun n=>by rw[List.mem_mergeSort,h]
theorem zie (l:List Evt) (ss:List (List EntD)) (hl:Fit l) (hn:ss.length≤14) (hs:∀ s∈ss,s.length≤1000):AC prog 211 [evs l,ykh ss] (ints (zic l ss)):=by
 refine AC.ob func211 ntmps211 results211 (zzj (zyk _) (zze _)) (zxe _) fun w S'=>AWp.of_vc [] ?_
 have hm:ss.length≤maxLen:=by unfold maxLen;omega
 have hll:=hl.len
 have hsl:=yh4 l ss 1000 hs
 have hsl2:(seqOf l ss).length≤20000:=by
  have:(1000+l.length) * ss.length≤1014 * 14:=Nat.mul_le_mul (by omega) (by omega)
  omega
 simp[go_sem]
 refine AWp.loop_vc [] (fun m s=>∃ (k clk:Nat) (es:Array MapEntry),m=ss.length - k∧k≤ss.length∧CntM es clk (seqOf l (ss.take k))∧s.σ 0=evs l∧s.σ 1=ykh ss∧s.σ 5=.ref 13 1∧s.ver 13=1∧s.h 13=.map es clk∧s.σ 14=ykh ss∧s.σ 15=I ss.length∧s.σ 16=I k) ss.length ⟨0,0,#[],by simp[go_sem,seqOf,CntM.nil]⟩ ?_
 rintro m s ⟨k,clk,es,rfl,hk,hC,h0,h1,h5,hv,hh,h14,h15,h16⟩
 by_cases hlt:k < ss.length
 · have hsk:=hs _ (List.getElem_mem hlt)
   have hsu:=yh5 l hlt
   have hl1:=yh4 l (ss.take (k+1)) 1000 fun x hx=>hs x (List.mem_of_mem_take hx)
   have hl2:(seqOf l (ss.take (k+1))).length≤20000:=by
    rw[List.length_take]at hl1
    have:(1000+l.length) * (min (k+1) ss.length)≤1014 * 14:=Nat.mul_le_mul (by omega) (by omega)
    omega
   rw[hsu,List.length_append]at hl2
   simp[go_sem,h0,h1,h5,hv,hh,h14,h15,h16,hlt]
   refine cpu (zgy l ss[k] hl hsk) ?_
   generalize seqOf l (ss.take k)=X at hC hsu hl2
   generalize zgp l ss[k]=Y at hsu hl2 ⊢
   have hYm:Y.length≤maxLen:=by unfold maxLen;omega
   simp[go_sem,h0,h1,h5,hv,hh,h14,h15,h16,hlt]
   refine AWp.loop_vc [] (fun m s=>∃ (q clk:Nat) (es:Array MapEntry),m=Y.length - q∧q≤Y.length∧CntM es clk (X++Y.take q)∧s.σ 0=evs l∧s.σ 1=ykh ss∧s.σ 5=.ref 13 1∧s.ver 13=1∧s.h 13=.map es clk∧s.σ 14=ykh ss∧s.σ 15=I ss.length∧s.σ 16=I k∧s.σ 22=ints Y∧s.σ 23=I Y.length∧s.σ 24=I q) Y.length ⟨0,clk,es,by simp[go_sem,h0,h1,h5,hv,hh,h14,h15,h16,hC]⟩ ?_
   clear h0 h1 h5 hv hh h14 h15 h16 hC
   rintro m s ⟨q,clk,es,rfl,hq,hC,h0,h1,h5,hv,hh,h14,h15,h16,h22,h23,h24⟩
   by_cases hlq:q < Y.length
   · have hg:=hC.get Y[q]
     have hp:=hC.put Y[q]
     have hi:=hC.int
     have hcl:(X++Y.take q).count Y[q]≤20000:=by
      have:=List.count_le_length (a:=Y[q]) (l:=X++Y.take q)
      rw[List.length_append,List.length_take]at this;omega
     have hw:IntKind.i64.wrap (((X++Y.take q).count Y[q]:Int)+1)=((X++Y.take q).count Y[q]:Int)+1:=wrap_i64 (by omega) (by omega)
     have hst:X++Y.take (q+1)=(X++Y.take q)++[Y[q]]:=by rw[List.take_succ_eq_append_getElem hlq,List.append_assoc]
     generalize hcc:(X++Y.take q).count Y[q]=c at hg hp hw
     simp[go_sem,h0,h1,h5,hv,hh,h14,h15,h16,h22,h23,h24,hlq,hi,hg,hw,yro hlq hYm]
     exact⟨Y.length - (q+1),by omega,q+1,rfl,by omega,_,_,by rw[hst];exact hp,⟨rfl,rfl⟩,rfl⟩
   · have hst:X++Y.take q=seqOf l (ss.take (k+1)):=by rw[hsu,List.take_of_length_le (by omega)]
     rw[hst]at hC
     simp[go_sem,h0,h1,h5,hv,hh,h14,h15,h16,h22,h23,h24,hlq,yro hlt hm]
     exact⟨ss.length - (k+1),by omega,k+1,rfl,by omega,clk,es,hC,⟨rfl,rfl⟩,rfl⟩
 · rw[List.take_of_length_le (by omega)]at hC
   have hes:=hC.size
   simp[go_sem,h0,h1,h5,hv,hh,h14,h15,h16,hlt]
   refine⟨⟨by omega,by omega⟩,hC.ok,?_⟩
   have hsz:es.size≤20000:=by omega
   unfold zic
   generalize hQ:seqOf l ss=Q at hC
   refine AWp.loop_vc [] (fun m s=>∃ (done:List MapEntry) (v u:Nat),m=es.size - done.length∧Seen es done∧s.σ 1=ykh ss∧s.σ 10=.ref 36 v∧s.ver 36=v∧s.h 36=.arr 3 1 (((done.map keyI).filter (fewIn Q ss.length)).map I)∧s.σ 38=.rptr 38 u 0 0∧s.ver 38=u∧s.h 38=.iter es clk done) es.size ⟨[],_,_,by simp[go_sem,h1,Seen.nil];exact⟨rfl,rfl⟩⟩ ?_
   clear h0 h1 h5 hv hh h14 h15 h16
   rintro m s ⟨done,v,u,rfl,hS,h1,h10,hv,hh,h38,hu,hi⟩
   have hdl:=hS.len
   have hfl:((done.map keyI).filter (fewIn Q ss.length)).length≤20000:=by
    have:=List.length_filter_le (fewIn Q ss.length) (done.map keyI)
    rw[List.length_map]at this;omega
   simp[go_sem,h1,h10,hv,hh,h38,hu,hi]
   refine NextK.mk (fun hall=>?_) fun e he hnew=>?_
   · have hD:((done.map keyI).filter (fewIn Q ss.length)).mergeSort (fun x y=>decide (x≤y))=yjh (Q.filter (fewIn Q ss.length)):=by
      refine yjq ((hS.keys hC.keys).filter _) (yjk _).1 fun n=>?_
      rw[(yjk _).2,List.mem_filter,List.mem_filter,List.mem_map]
      refine and_congr_left fun _=>⟨?_,fun hq=>?_⟩
      · rintro⟨e,he,rfl⟩
        exact (hC.val (hS.mem e he)).2.2
      · obtain⟨e,he,hk⟩:=hC.mem hq
        exact⟨e,(hS.all hC.ok hall e).2 he,hk⟩
     rw[← hD]
     generalize (done.map keyI).filter (fewIn Q ss.length)=D at hh hfl ⊢
     simp[go_sem,h1,h10,hv,hh,h38,hu,hi]
     refine CallSem.sortInts (ρ:=laysSort_ren) (id:=36) (e:=3) (l:=D) laysSort ⟨_,func114,rfl,rfl⟩ (by simp[go_sem,hv]) (by simp[go_sem,hv,hh,Function.comp_def];try rfl) (by simp[go_sem]) (by omega) ?_
     simp[go_sem,h10,hv]
     refine PostR.retW [36] ?_ (.refl _)
     simp[go_sem,h10,hv]
   · obtain⟨hek,hev,_⟩:=hC.val he
     have hS':=hS.snoc he hnew
     have hdl':=hS'.len
     rw[List.length_append,List.length_cons,List.length_nil]at hdl'
     have hsnoc:((done++[e]).map keyI).filter (fewIn Q ss.length)=(done.map keyI).filter (fewIn Q ss.length)++if fewIn Q ss.length (keyI e)=true then [keyI e] else []:=by
      rw[List.map_append,List.filter_append]
      congr 1
      cases hff:fewIn Q ss.length (keyI e)<;>simp[hff]
     have hfi:fewIn Q ss.length (keyI e)=decide ((Q.count (keyI e):Int) < (ss.length:Int)):=rfl
     generalize (done.map keyI).filter (fewIn Q ss.length)=D at hh hfl hsnoc
     by_cases hc:(Q.count (keyI e):Int) < (ss.length:Int)
     · have hfc:fewIn Q ss.length (keyI e)=true:=by rw[hfi];exact decide_eq_true hc
       rw[hfc]at hsnoc
       simp[go_sem,h1,h10,hv,hh,h38,hu,hi,hek,hev,hc]
       exact⟨⟨by omega,by omega⟩,es.size - (done++[e]).length,by rw[List.length_append,List.length_cons,List.length_nil];omega,done++[e],rfl,hS',by rw[hsnoc];simp[I],rfl⟩
     · have hfc:fewIn Q ss.length (keyI e)=false:=by rw[hfi];exact decide_eq_false hc
       rw[hfc]at hsnoc
       simp[go_sem,h1,h10,hv,hh,h38,hu,hi,hek,hev,hc]
       exact⟨es.size - (done++[e]).length,by rw[List.length_append,List.length_cons,List.length_nil];omega,done++[e],rfl,hS',by rw[hsnoc];simp,rfl⟩
noncomputable def zmo (a:EntD→Bool) (l:List Evt) (ss:List (List EntD)):List Int:=yjh (yjh (idsO a ss ss.length)++zic l ss)
theorem zid (l:List Evt) (ss:List (List EntD)):(zic l ss).length≤(seqOf l ss).length:=by
 unfold zic
 obtain⟨h1,h2⟩:=yjk ((seqOf l ss).filter (fewIn (seqOf l ss) ss.length))
 exact zsp (h1.imp fun h=>Int.ne_of_lt h) fun x hx=>(List.mem_filter.1 ((h2 x).1 hx)).1
theorem znw (a:EntD→Bool) {ss:List (List EntD)} (hs:∀ s∈ss,s.length≤1000):∀ k,k≤ss.length→(idsO a ss k).length≤1000 * k
 | 0,_=>by simp[idsO]
 | k+1,h=>by
  have ih:=znw a hs k (by omega)
  rw[znx a (by omega:k < ss.length),List.length_append]
  have h1:=zny a ss[k]
  have h2:=hs _ (List.getElem_mem (by omega:k < ss.length))
  omega
theorem full_ac (l:List Evt) (ss:List (List EntD)) (hl:Fit l) (hn:ss.length≤14) (hs:∀ s∈ss,s.length≤1000):AC prog 144 [evs l,ykh ss] (ints (zmo (allOf ss) l ss)):=by
 refine AC.ob func144 ntmps144 results144 (zzj (zyk _) (zze _)) (zxe _) fun w S'=>AWp.of_vc [] ?_
 unfold zmo
 have hll:=hl.len
 have hsl:=yh4 l ss 1000 hs
 have hdl:=zid l ss
 have hdl2:(zic l ss).length≤20000:=by
  have:(1000+l.length) * ss.length≤1014 * 14:=Nat.mul_le_mul (by omega) (by omega)
  omega
 have hil:=znw (allOf ss) hs ss.length (Nat.le_refl _)
 have hil2:=yji (idsO (allOf ss) ss ss.length)
 simp[go_sem]
 refine cpu (yjz ss (by omega) hs) ?_
 unfold yjy
 generalize yjh (idsO (allOf ss) ss ss.length)=X at hil2 ⊢
 simp[go_sem]
 refine AWp.draw (n:=9) [] rfl (by kernel_rfl) ?_
 simp[go_sem]
 refine CalmThen.pure (zie l ss hl hn hs) rfl ?_
 generalize zic l ss=D at hdl hdl2 ⊢
 rw[← yjm]
 have htk:List.take X.length (List.map I X)=X.map I:=List.take_of_length_le (by simp)
 simp[go_sem]
 refine⟨⟨by omega,by omega⟩,fun hD=>?_,fun _=>?_⟩
 · subst hD
   refine CallSem.sortInts (ρ:=laysSort_ren) (id:=2010) (e:=3) (l:=X) laysSort ⟨_,func114,rfl,rfl⟩ (by simp[go_sem]) (by simp[go_sem,Function.comp_def,htk];try rfl) (by simp[go_sem]) (by omega) ?_
   simp[go_sem]
   refine CallSem.compactInts (ρ:=laysCompact_ren) (id:=2010) (e:=3) (l:=(X).mergeSort fun x y=>decide (x≤y)) laysCompact ⟨_,func209,rfl,rfl⟩ (by simp[go_sem]) (by simp[go_sem]) (by simp[go_sem]) (zg9 _) ?_
   simp[go_sem]
   refine PostR.retW [2010] ?_ (.refl _)
   simp[go_sem,yjl]
 · skip
   refine CallSem.sortInts (ρ:=laysSort_ren) (id:=22) (e:=3) (l:=X++D) laysSort ⟨_,func114,rfl,rfl⟩ (by simp[go_sem]) (by simp[go_sem,Function.comp_def,htk];try rfl) (by simp[go_sem]) (by rw[List.length_append];omega) ?_
   simp[go_sem]
   refine CallSem.compactInts (ρ:=laysCompact_ren) (id:=22) (e:=3) (l:=(X++D).mergeSort fun x y=>decide (x≤y)) laysCompact ⟨_,func209,rfl,rfl⟩ (by simp[go_sem]) (by simp[go_sem]) (by simp[go_sem]) (zg9 _) ?_
   simp[go_sem]
   refine PostR.retW [22] ?_ (.refl _)
   simp[go_sem,yjl]
theorem zgb {G:Ctx} (hG:G.P=prog) {st:St} {dst:Option Tmp} {K:St→Prop} {id v:Nat} {l:List Evt} {ids:List Int} (hd:dstOK G.n dst) (hid:id < 20000) (hv:st.ver id=v) (hh:st.h id=.arr 3 1 (ids.map I)) (hl:Fit l) (hi:ids.length≤1000000)
 (hK:∀ s,s.ver id=v→s.h id=.arr 3 1 (ids.map I)→K ((st.mem s).put dst (ints (zf9 l ids)))):CallSem G 213 [evs l,.ref id v] dst K st:=by
 obtain⟨P,w0,S0,nn,rnd,gids,e0⟩:=G
 subst hG
 have hll:=hl.len
 have hfl:=zk8 hl ids
 have hm:ids.length≤maxLen:=by unfold maxLen;omega
 have n1:¬ id=20006:=by omega
 have n2:¬ 20006=id:=by omega
 refine CallSem.inline 20000 func213 rfl rfl ntmps213 (congrArg Array.toList results213) (by simp) hd fun e1=>AWp.of_vc [] ?_
 simp[go_sem]
 refine cpu (zoh l) ?_
 simp[go_sem,hv,hh]
 refine AWp.ownNil 6 3 1 (by simp[go_sem]) ?_
 refine AWp.loop_vc [] (fun m s=>∃ (k u:Nat),m=ids.length - k∧k≤ids.length∧s.σ 0=evs l∧s.σ 5=idxAV l∧s.σ 6=.ref 20006 u∧s.σ 13=.ref id v∧s.σ 14=I ids.length∧s.σ 15=I k∧s.ver 20006=u∧s.h 20006=.arr 3 1 ((zk7 l (ids.take k)).map I)∧s.ver id=v∧s.h id=.arr 3 1 (ids.map I)) ids.length ⟨0,st.ver 20006+1,by simp[go_sem,zk7,hv,hh,n1,n2]⟩ ?_
 rintro m s ⟨k,u,rfl,hk,h0,h5,h6,h13,h14,h15,hu,hhu,hv,hh⟩
 by_cases hlt:k < ids.length
 · have hsu:=zk9 (l:=l) hlt
   have hkl:=zk8 hl (ids.take k)
   rw[List.length_take]at hkl
   generalize zk7 l (ids.take k)=X at hhu hsu hkl
   rcases zn7 l ids[k] with ⟨hg,hm2⟩|⟨j,hj,hg,hm2⟩
   · rw[hg]at hsu
     simp[go_sem,h0,h5,h6,h13,h14,h15,hu,hhu,hv,hh,n1,n2,hlt,hm2,yro hlt hm]
     exact⟨ids.length - (k+1),by omega,k+1,rfl,by omega,rfl,by rw[hsu];simp⟩
   · rw[hg]at hsu
     have h40:=hl.auth l[j] (List.getElem_mem hj)
     simp[go_sem,h0,h5,h6,h13,h14,h15,hu,hhu,hv,hh,n1,n2,hlt,hj,hm2,yro hlt hm]
     exact⟨⟨by omega,by omega⟩,ids.length - (k+1),by omega,k+1,rfl,by omega,rfl,by rw[hsu];simp⟩
 · rw[List.take_of_length_le (by omega)]at hhu
   simp[go_sem,h0,h5,h6,h13,h14,h15,hu,hhu,hv,hh,n1,n2,hlt]
   refine CallSem.freeze 20006 ?_
   simp[go_sem,h0,h5,h6,h13,h14,h15,hu,hhu,hv,hh,n1,n2,hlt]
   refine cpu (yfq l (zk7 l ids) _ true zf8 (by omega) (by omega) (hl.refs true)) ?_
   have hch:reachOf l true (zk7 l ids)=zf9 l ids:=rfl
   rw[hch]
   generalize zf9 l ids=C at hK ⊢
   simp[go_sem]
   refine PostIn.ret (r:=ints C) (by simp[go_sem,resIn]) ?_
   exact hK _ (by simp[go_sem,hv]) (by simp[go_sem,hh,n1,n2])
def powN (l:List Evt) (n:Int):Bool:=((getE l n).map powOf).getD false
theorem zwj {l:List Evt} {n:Int} {e:Evt} (h:getE l n=some e):powN l n=powOf e:=by unfold powN;rw[h];rfl
theorem zwi {l:List Evt} {n:Int} (h:getE l n=none):powN l n=false:=by unfold powN;rw[h];rfl
noncomputable def zwx (l:List Evt) (full:List Int):List Int:=yjl (full.filter (powN l)++full.filter fun n=>zna (zf9 l (full.filter (powN l))) n)
theorem pset_ac (l:List Evt) (full:List Int) (hl:Fit l) (hsz:full.length≤1000):AC prog 145 [evs l,ints full] (ints (zwx l full)):=by
 refine AC.ob func145 ntmps145 results145 (zzj (zyk _) (zyr _)) (zxe _) fun w S'=>AWp.of_vc [] ?_
 have hm:full.length≤maxLen:=by unfold maxLen;omega
 unfold zwx
 simp[go_sem]
 refine AWp.ownNil 5 3 1 (by simp[go_sem]) ?_
 refine AWp.loop_vc [] (fun m s=>∃ (k v:Nat),m=full.length - k∧k≤full.length∧s.σ 0=evs l∧s.σ 1=ints full∧s.σ 5=.ref 5 v∧s.σ 13=ints full∧s.σ 14=I full.length∧s.σ 15=I k∧s.ver 5=v∧s.h 5=.arr 3 1 (((full.take k).filter (powN l)).map I)) full.length ⟨0,1,by simp[go_sem]⟩ ?_
 rintro m s ⟨k,v,rfl,hk,h0,h1,h5,h13,h14,h15,hv,hh⟩
 by_cases hlt:k < full.length
 · have hsu:=zkd (powN l) full k hlt
   have hfl:((full.take k).filter (powN l)).length≤k:=by
    have:=List.length_filter_le (powN l) (full.take k)
    rw[List.length_take]at this;omega
   generalize (full.take k).filter (powN l)=X at hh hsu hfl
   simp[go_sem,h0,h1,h5,h13,h14,h15,hv,hh,hlt]
   refine cpu (yi1 l full[k]) ?_
   cases hg:getE l full[k] with
   | none =>
    rw[zwi hg]at hsu
    simp[go_sem,h0,h1,h5,h13,h14,h15,hv,hh,hlt,yro hlt hm]
    exact⟨full.length - (k+1),by omega,k+1,rfl,by omega,rfl,by rw[hsu];simp⟩
   | some e =>
    rw[zwj hg]at hsu
    simp[go_sem,h0,h1,h5,h13,h14,h15,hv,hh,hlt]
    refine cpu (is18_ac e) ?_
    cases hp:powOf e with
    | true =>
     rw[hp]at hsu
     simp[go_sem,h0,h1,h5,h13,h14,h15,hv,hh,hlt,yro hlt hm]
     exact⟨⟨by omega,by omega⟩,full.length - (k+1),by omega,k+1,rfl,by omega,rfl,by rw[hsu];simp[I]⟩
    | false =>
     rw[hp]at hsu
     simp[go_sem,h0,h1,h5,h13,h14,h15,hv,hh,hlt,yro hlt hm]
     exact⟨full.length - (k+1),by omega,k+1,rfl,by omega,rfl,by rw[hsu];simp⟩
 · rw[List.take_of_length_le (by omega)]at hh
   have hfl:=List.length_filter_le (powN l) full
   generalize full.filter (powN l)=P at hh hfl ⊢
   simp[go_sem,h0,h1,h5,h13,h14,h15,hv,hh,hlt]
   refine zgb (ids:=P) rfl (by simp[go_sem]) (by decide) (by simp[go_sem,hv]) (by simp[go_sem,hh]) hl (by omega) ?_
   intro s' hv' hh'
   generalize zf9 l P=C
   simp[go_sem,h0,h1,h5,h13,h14,h15,hv',hh',hlt]
   refine AWp.loop_vc [] (fun m s=>∃ (k v:Nat),m=full.length - k∧k≤full.length∧s.σ 5=.ref 5 v∧s.σ 10=ints C∧s.σ 38=ints full∧s.σ 39=I full.length∧s.σ 40=I k∧s.ver 5=v∧s.h 5=.arr 3 1 ((P++(full.take k).filter fun n=>zna C n).map I)) full.length ⟨0,v,by simp[go_sem,h0,h1,h5,hv',hh']⟩ ?_
   clear h0 h1 h5 h13 h14 h15 hv hh hlt hk k hv' hh'
   rintro m s ⟨k,v,rfl,hk,h5,h10,h38,h39,h40,hv,hh⟩
   by_cases hlt:k < full.length
   · have hsu:=zkb (p:=fun n=>zna C n) hlt P
     have hfl2:(P++(full.take k).filter fun n=>zna C n).length≤5000:=by
      have:=List.length_filter_le (fun n=>zna C n) (full.take k)
      rw[List.length_take]at this
      rw[List.length_append];omega
     generalize P++(full.take k).filter (fun n=>zna C n)=X at hh hsu hfl2
     simp[go_sem,h5,h10,h38,h39,h40,hv,hh,hlt]
     refine cpu (r:=B (zna C full[k])) (zsu C full[k]) ?_
     cases hc:zna C full[k] with
     | true =>
      rw[hc]at hsu
      simp[go_sem,h5,h10,h38,h39,h40,hv,hh,hlt,yro hlt hm]
      exact⟨⟨by omega,by omega⟩,full.length - (k+1),by omega,k+1,rfl,by omega,rfl,by rw[← List.map_append,hsu];simp[I]⟩
     | false =>
      rw[hc]at hsu
      simp[go_sem,h5,h10,h38,h39,h40,hv,hh,hlt,yro hlt hm]
      exact⟨full.length - (k+1),by omega,k+1,rfl,by omega,rfl,by rw[← List.map_append,hsu];simp⟩
   · rw[List.take_of_length_le (by omega)]at hh
     have hfl3:=List.length_filter_le (fun n=>zna C n) full
     have hXl:(P++full.filter fun n=>zna C n).length≤5000:=by rw[List.length_append];omega
     generalize P++full.filter (fun n=>zna C n)=X at hh hXl ⊢
     simp[go_sem,h5,h10,h38,h39,h40,hv,hh,hlt]
     refine CallSem.freeze 5 ?_
     simp[go_sem,h5,h10,h38,h39,h40,hv,hh,hlt]
     refine cpu (zsw X (by omega)) ?_
     simp[go_sem]
     exact rets
end Go.Proofs.YthjmjdleecmaeaaGreat
