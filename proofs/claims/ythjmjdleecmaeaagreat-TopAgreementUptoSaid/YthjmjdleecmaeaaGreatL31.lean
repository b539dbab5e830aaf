/- Several texts of the proof in one: A4, A5, A6, A7, A8, H2, B18. No condition. -/
import Derived.Test.YthjmjdleecmaeaaGreatL30
set_option linter.unusedSimpArgs false
set_option linter.unusedVariables false
set_option maxHeartbeats 4000000
set_option maxRecDepth 8000
namespace Go.Proofs.YthjmjdleecmaeaaGreat
open Go Go.Abs Go.Proofs.Tryz
def hits (s:List EntD) (L:List EntD):List Int:=L.filterMap fun k=>yf9 s k.kind k.key
theorem zno {s L:List EntD} {q:Nat} (h:q < L.length):hits s (L.take (q+1))=hits s (L.take q)++(yf9 s L[q].kind L[q].key).toList:=by
 unfold hits
 rw[List.take_succ_eq_append_getElem h,List.filterMap_append]
 simp only[List.filterMap_cons,List.filterMap_nil]
 cases yf9 s L[q].kind L[q].key<;>rfl
theorem znn (s:List EntD) (L:List EntD):(hits s L).length≤L.length:=List.length_filterMap_le _ _
def selOf (e:Evt) (s:List EntD):List Int:=yjh (hits s (zpj e))
theorem ygb {s:List EntD} {k:Int} {key:Bytes} {j:Nat} (hj:j < s.length) (hno:∀ (i:Nat) x,i < j→s[i]? = some x→isKey k key x=false) (hp:isKey k key s[j]=true):yf9 s k key=some s[j].id:=by
 unfold yf9
 rw[List.find?_eq_some_iff_getElem.2 ⟨hp,j,hj,rfl,fun i hi=>?_⟩]
 · rfl
 · simp[hno i _ hi (List.getElem?_eq_getElem (by omega))]
theorem yga {s:List EntD} {k:Int} {key:Bytes} (hno:∀ (i:Nat) x,i < s.length→s[i]? = some x→isKey k key x=false):yf9 s k key=none:=by
 unfold yf9
 rw[List.find?_eq_none.2 fun x hx=>?_]
 · rfl
 · obtain⟨i,hi,rfl⟩:=List.mem_iff_getElem.1 hx
   simp[hno i _ hi (List.getElem?_eq_getElem hi)]
theorem sel_ac (e:Evt) (s:List EntD):AC prog 115 [ev e,ents s] (ints (selOf e s)):=by
 refine AC.ob func115 ntmps115 results115 (zzj (zyh _) (zye _)) (zxe _) fun w S'=>AWp.bound 1 rfl fun hlen=>AWp.of_vc [] ?_
 rw[ziv]at hlen
 have hle:=zpk e
 have hm:(zpj e).length≤maxLen:=by unfold maxLen;omega
 unfold selOf
 generalize hL:zpj e=L at hle hm ⊢
 simp[go_sem]
 refine cpu (zpl e) ?_
 rw[hL]
 simp[go_sem]
 refine AWp.ownNil 6 3 1 (by simp[go_sem]) ?_
 refine AWp.loop_vc [] (fun m s'=>∃ q v:Nat,q≤L.length∧m=L.length - q∧s'.σ 1=ents s∧s'.σ 5=.fn (.func 178) [] []∧s'.σ 12=kps L∧s'.σ 13=I L.length∧s'.σ 14=I q∧s'.σ 6=.ref 6 v∧s'.ver 6=v∧s'.h 6=.arr 3 1 ((hits s (L.take q)).map I)) L.length ⟨0,1,by simp[go_sem,hits]⟩ ?_
 rintro m s' ⟨q,v,hq,rfl,h1,h5,h12,h13,h14,h6,hv6,hh6⟩
 by_cases hlt:q < L.length
 · simp[go_sem,h1,h5,h12,h13,h14,h6,hv6,hh6,hlt,yro hlt hm]
   refine AWp.loop_vc [] (fun m s''=>∃ j v8:Nat,j≤s.length∧m=s.length - j∧s''.σ 1=ents s∧s''.σ 5=.fn (.func 178) [] []∧s''.σ 12=kps L∧s''.σ 13=I L.length∧s''.σ 14=I q∧s''.σ 6=.ref 6 v∧s''.ver 6=v∧s''.h 6=.arr 3 1 ((hits s (L.take q)).map I)∧s''.σ 18=ents s∧s''.σ 19=I s.length∧s''.σ 20=I j∧s''.σ 8=.rptr 8 v8 0 0∧s''.ver 8=v8∧s''.h 8=.box (kenc L[q])∧∀ (i:Nat) x,i < j→s[i]? = some x→isKey L[q].kind L[q].key x=false) s.length ⟨0,s'.ver 8+1,by simp[go_sem,h1,h5,h12,h13,h14,h6,hv6,hh6]⟩ ?_
   clear h1 h5 h12 h13 h14 h6 hv6 hh6
   rintro m s'' ⟨j,v8,hj,rfl,h1,h5,h12,h13,h14,h6,hv6,hh6,h18,h19,h20,h8,hv8,hh8,hno⟩
   have hhl:=znn s (L.take q)
   rw[List.length_take]at hhl
   have hsu:=zno (s:=s) hlt
   by_cases hjl:j < s.length
   · simp[go_sem,h1,h5,h12,h13,h14,h6,hv6,hh6,h18,h19,h20,h8,hv8,hh8,hjl]
     refine cpu (at_ac L[q] s[j]) ?_
     cases hp:isKey L[q].kind L[q].key s[j] with
     | true =>
      rw[ygb hjl hno hp]at hsu
      simp[go_sem,h1,h5,h12,h13,h14,h6,hv6,hh6,h18,h19,h20,h8,hv8,hh8,hjl,yro hlt hm]
      exact⟨⟨by omega,by omega⟩,L.length - (q+1),by omega,q+1,by omega,rfl,rfl,by rw[hsu];simp[I]⟩
     | false =>
      simp[go_sem,h1,h5,h12,h13,h14,h6,hv6,hh6,h18,h19,h20,h8,hv8,hh8,hjl,yro hjl hlen]
      exact⟨s.length - (j+1),by omega,j+1,by omega,rfl,rfl,zes hjl hno hp⟩
   · simp[go_sem,h1,h5,h12,h13,h14,h6,hv6,hh6,h18,h19,h20,h8,hv8,hh8,hjl,yro hlt hm]
     rw[yga fun i x hi hx=>hno i x (by omega) hx]at hsu
     exact⟨L.length - (q+1),by omega,q+1,by omega,rfl,rfl,by rw[hsu];simp⟩
 · simp[go_sem,h1,h5,h12,h13,h14,h6,hv6,hh6,hlt]
   rw[List.take_of_length_le (by omega)]at hh6
   refine CallSem.freeze 6 ?_
   simp[go_sem,h6,hv6,hh6]
   have hhl:=znn s L
   refine cpu (zsw (hits s L) (by omega)) ?_
   simp[go_sem]
   refine PostR.ret ?_
   simp[go_sem,yjm]
def zlc (e:Evt) (k:EntD):Bool:=e.kind==k.kind&&e.key==k.key
theorem place_ac (L:List EntD) (e:Evt):AC prog 151 [kps L,ev e] (I (idxI (zlc e) L)):=by
 refine AC.ob func151 ntmps151 results151 (zzj (zyv _) (zyh _)) (zx1 _) fun w S'=>AWp.bound 0 rfl fun hlen=>AWp.of_vc [] ?_
 rw[kps_len]at hlen
 simp[go_sem]
 refine AWp.loop_vc [] (fun m s=>∃ q:Nat,q≤L.length∧m=L.length - q∧s.σ 3=.eptr (evc e) 0∧s.σ 5=.fn (.func 152) [] []∧s.σ 8=kps L∧s.σ 9=I L.length∧s.σ 10=I q∧∀ (j:Nat) x,j < q→L[j]? = some x→zlc e x=false) L.length ⟨0,by simp[go_sem]⟩ ?_
 rintro m s ⟨q,hq,rfl,h3,h5,h8,h9,h10,hno⟩
 by_cases hlt:q < L.length
 · simp[go_sem,h3,h5,h8,h9,h10,hlt]
   refine cpu (in_ac L[q] e) ?_
   have hfk:(e.kind==L[q].kind&&e.key==L[q].key)=zlc e L[q]:=rfl
   rw[hfk]
   cases hp:zlc e L[q] with
   | true =>
    simp[go_sem,h3,h5,h8,h9,h10,hlt]
    refine PostR.ret ?_
    simp[go_sem,zn4 hlt hp hno]
   | false =>
    simp[go_sem,h3,h5,h8,h9,h10,hlt,yro hlt hlen]
    exact⟨L.length - (q+1),by omega,q+1,by omega,rfl,rfl,zes hlt hno hp⟩
 · simp[go_sem,h3,h5,h8,h9,h10,hlt]
   refine PostR.ret ?_
   have:idxI (zlc e) L=-1:=zn5 fun j x hx=>hno j x (by have:=(List.getElem?_eq_some_iff.1 hx).1;omega) hx
   simp[go_sem,this]
theorem zw6 (l:List Evt):PureR (evs l):=zyk l
def ofIds (l:List Evt) (ids:List Int):List Evt:=ids.filterMap (getE l)
theorem zs4 {l:List Evt} {ids:List Int} {q:Nat} (h:q < ids.length):ofIds l (ids.take (q+1))=ofIds l (ids.take q)++(getE l ids[q]).toList:=by
 unfold ofIds
 rw[List.take_succ_eq_append_getElem h,List.filterMap_append]
 simp only[List.filterMap_cons,List.filterMap_nil]
 cases getE l ids[q]<;>rfl
theorem zs2 (l:List Evt) (ids:List Int):(ofIds l ids).length≤ids.length:=List.length_filterMap_le _ _
theorem AWp_post {G:Ctx} {c:Code} {Q:Exit→St→Prop} {st:St} (h:∀ Q':Exit→St→Prop,Q'=Q→AWp G c Q' st):AWp G c Q st:=h Q rfl
theorem zab {G:Ctx} {c:Code} {Q:Exit→St→Prop} {st:St} (P:St→Prop) (h:P st) (k:∀ t,P t→AWp G c Q t):AWp G c Q st:=k st h
theorem zmq (st:St) (d:Option Tmp) (v:AV) (id:Nat) (a:AV):fz (st.put d v) id a=fz st id a:=by
 cases d<;>rfl
def zih (L:List EntD) (x:Evt):Option (List EntD):=if idxI (zlc x) L < 0 then none else some (L.eraseIdx (idxI (zlc x) L).toNat)
def zp4 (made:Bool):Int:=if made=true then 0 else 16
def yo7 (made:Bool) (a:List Evt) (o:Option (List EntD)):Int :=
 match o with
 | none=>16
 | some _=>zp4 (made||a.any fun x=>x.kind==1)
def gapOf (l:List Evt) (ids:List Int):Bool:=ids.any fun id=>(getE l id).isNone
def ygg (a:List Evt) (room:Bytes):Bool:=a.any fun x=>x.room != room
def zld (l:List Evt) (e:Evt):Int :=
 if gapOf l e.auth=true then 14 else
 if ygg (ofIds l e.auth) e.room=true then 13 else
 yo7 (e.kind==1) (ofIds l e.auth) ((ofIds l e.auth).foldlM zih (zpj e))
theorem zlz {σ α:Type} (f:σ→α→Option σ) {s s':σ} {l:List α} {q:Nat} (h:q < l.length) (hs:(l.take q).foldlM f s=some s'):(l.take (q+1)).foldlM f s=f s' l[q]:=by
 rw[List.take_succ_eq_append_getElem h,List.foldlM_append,hs]
 simp
theorem zlx {σ α:Type} (f:σ→α→Option σ) {s s':σ} {l:List α} {q:Nat} (h:q < l.length) (hs:(l.take q).foldlM f s=some s') (hn:f s' l[q]=none):l.foldlM f s=none:=by
 have h1:=zlz f h hs
 rw[hn]at h1
 rw[← List.take_append_drop (q+1) l,List.foldlM_append,h1]
 rfl
theorem zdq {α:Type} {l:List α} {p:α→Bool} {k:Nat} (hk:k < l.length):(l.take (k+1)).any p=((l.take k).any p||p l[k]):=by
 rw[List.take_succ_eq_append_getElem hk]
 simp only[List.any_append,List.any_cons,List.any_nil,Bool.or_false]
theorem zms {l:List Evt} {ids:List Int} (h:gapOf l ids=false):(ofIds l ids).length=ids.length:=by
 unfold gapOf at h
 unfold ofIds
 induction ids with
 | nil=>rfl
 | cons id ids ih =>
  simp only[List.any_cons,Bool.or_eq_false_iff]at h
  cases hg:getE l id with
  | none=>rw[hg]at h;cases h.1
  | some x=>simp only[List.filterMap_cons,hg,List.length_cons];rw[ih h.2]
theorem fits_ac (l:List Evt) (e:Evt) (hsz:e.auth.length≤100000):AC prog 97 [evs l,ev e] (I (zld l e)):=by
 refine AC.ob func97 ntmps97 results97 (zzj (zyk _) (zyh _)) (zx1 _) fun w S'=>AWp.of_vc [] ?_
 have hm:e.auth.length≤maxLen:=by unfold maxLen;omega
 have hkl:=zpk e
 simp[go_sem]
 refine AWp.ownNil 5 45 29 (by simp[go_sem]) ?_
 refine AWp.loop_vc [] (fun m s=>∃ q v:Nat,q≤e.auth.length∧m=e.auth.length - q∧s.σ 0=evs l∧s.σ 3=.eptr (evc e) 0∧s.σ 16=ints e.auth∧s.σ 17=I e.auth.length∧s.σ 18=I q∧s.σ 5=.ref 5 v∧s.ver 5=v∧s.h 5=.arr 45 29 ((ofIds l (e.auth.take q)).map ev)∧gapOf l (e.auth.take q)=false) e.auth.length ⟨0,1,by simp[go_sem,ofIds,gapOf]⟩ ?_
 rintro m s ⟨q,v,hq,rfl,h0,h3,h16,h17,h18,h5,hv5,hh5,hgap⟩
 have hol:=zs2 l (e.auth.take q)
 rw[List.length_take]at hol
 by_cases hlt:q < e.auth.length
 · have hsu:=zs4 (l:=l) hlt
   simp[go_sem,h0,h3,h16,h17,h18,h5,hv5,hh5,hlt]
   refine cpu (yi1 l e.auth[q]) ?_
   cases hg:getE l e.auth[q] with
   | none =>
    have hbad:zld l e=14:=by
     unfold zld
     have hgt:gapOf l e.auth=true:=List.any_eq_true.2 ⟨e.auth[q],List.getElem_mem hlt,by simp only[hg,Option.isNone_none]⟩
     rw[if_pos hgt]
    simp[go_sem,h0,h3,h16,h17,h18,h5,hv5,hh5,hlt]
    refine PostR.ret ?_
    simp[go_sem,hbad]
   | some x =>
    rw[hg]at hsu
    simp[go_sem,h0,h3,h16,h17,h18,h5,hv5,hh5,hlt,yro hlt hm]
    refine⟨⟨by omega,by omega⟩,e.auth.length - (q+1),by omega,q+1,by omega,rfl,rfl,by rw[hsu];simp[ev,evc],?_⟩
    unfold gapOf at hgap ⊢
    rw[zdq hlt,hgap,hg];rfl
 · rw[List.take_of_length_le (by omega)]at hh5 hgap
   have hnl:=zms hgap
   generalize hA:ofIds l e.auth=A at hh5 hnl
   have hfit:zld l e=if ygg A e.room=true then 13 else yo7 (e.kind==1) A (A.foldlM zih (zpj e)):=by
    unfold zld;rw[if_neg (by simp[hgap]),hA]
   have hAm:A.length≤maxLen:=by unfold maxLen;omega
   simp[go_sem,h0,h3,h16,h17,h18,h5,hv5,hh5,hlt]
   refine AWp.freeze 5 ?_
   refine AWp.loop_vc [] (fun m s=>∃ q:Nat,q≤A.length∧m=A.length - q∧s.σ 3=.eptr (evc e) 0∧s.σ 5=evs A∧s.σ 36=I A.length∧s.σ 37=I q∧∀ (j:Nat) x,j < q→A[j]? = some x→(x.room != e.room)=false) A.length ⟨0,by simp[go_sem,h3,h5,hv5,hh5]⟩ ?_
   clear h0 h3 h16 h17 h18 h5 hv5 hh5
   rintro m s ⟨q,hq,rfl,h3,h5,h36,h37,hno⟩
   by_cases hlt:q < A.length
   · simp[go_sem,h3,h5,h36,h37,hlt]
     refine da ?_
     simp[go_sem,h3,h5,h36,h37,hlt]
     by_cases hr:A[q].room=e.room
     · simp[go_sem,h3,h5,h36,h37,hlt,hr,yro hlt hAm]
       exact⟨A.length - (q+1),by omega,q+1,by omega,rfl,rfl,zes hlt (fun j x hj hx=>by simpa using hno j x hj hx) hr⟩
     · have hbad:zld l e=13:=by
        have hrt:ygg A e.room=true:=List.any_eq_true.2 ⟨A[q],List.getElem_mem hlt,by simp[hr]⟩
        rw[hfit,if_pos hrt]
       simp[go_sem,h3,h5,h36,h37,hlt,hr]
       refine PostR.ret ?_
       simp[go_sem,hbad]
   · have hrt:ygg A e.room=false:=List.any_eq_false.2 fun x hx=>by
      obtain⟨j,hj,rfl⟩:=List.mem_iff_getElem.1 hx
      simpa using hno j _ (by omega) (List.getElem?_eq_getElem hj)
     rw[if_neg (by simp[hrt])]at hfit
     simp[go_sem,h3,h5,h36,h37,hlt]
     refine cpu (zpl e) ?_
     simp[go_sem,h3,h5,h36,h37,hlt]
     refine AWp.loop_vc [] (fun m s=>∃ (q:Nat) (L:List EntD) (b:Bool),q≤A.length∧m=A.length - q∧s.σ 5=evs A∧s.σ 11=B b∧fz s 75 (s.σ 12)=kps L∧s.σ 55=I A.length∧s.σ 56=I q∧L.length≤5∧(A.take q).foldlM zih (zpj e)=some L∧b=(e.kind==1||(A.take q).any fun x=>x.kind==1)) A.length ⟨0,zpj e,e.kind==1,by simp[go_sem,h3,h5,h36,h37,hkl];try rfl⟩ ?_
     clear h3 h5 h36 h37 hno hlt
     rintro m s ⟨q,L,b,hq,rfl,h5,h11,h12,h55,h56,hL5,hL,hb⟩
     generalize ha:s.σ 12=a12 at h12
     by_cases hlt:q < A.length
     · simp[go_sem,h5,h11,ha,h55,h56,hlt]
       refine CallSem.freeze 75 ?_
       simp[go_sem,zmq,h12]
       refine cpu (place_ac L A[q]) ?_
       rcases zn3 (zlc A[q]) L with ⟨hf,hi⟩|⟨k,hk,hf,hi⟩
       · have hbad:zld l e=16:=by
          have hn:zih L A[q]=none:=by unfold zih;rw[hi];rfl
          rw[hfit,zlx zih hlt hL hn];rfl
         simp[go_sem,hi,zmq,h5,h11,ha,h12,h55,h56,hlt]
         refine PostR.ret ?_
         simp[go_sem,hbad]
       · have hneg:¬ ((k:Int) < 0):=by omega
         have hd:zih L A[q]=some (L.eraseIdx k):=by unfold zih;rw[hi,if_neg (by omega)];rfl
         have hL':=zlz zih hlt hL
         rw[hd]at hL'
         have hLl:(L.eraseIdx k).length≤5:=Nat.le_trans (List.length_eraseIdx_le _ _) hL5
         have hb':=zdq (p:=fun x:Evt=>x.kind==1) hlt
         have hLm:L.length≤maxLen:=by unfold maxLen;omega
         have hkL:k≤L.length:=by omega
         have hk1:k+1≤L.length:=by omega
         have t1:(0:Int)≤(k:Int)+1:=by omega
         have t2:((k:Int)+1).toNat=k+1:=by omega
         have hcut:L.eraseIdx k=L.take k++L.drop (k+1):=List.eraseIdx_eq_take_drop_succ _ _
         simp[go_sem,hi,zmq,h5,h11,ha,h12,h55,h56,hlt,hneg]
         refine zab (fun t=>t.σ 5=evs A∧t.σ 11=B b∧t.σ 12=kps L∧t.σ 13=I q∧t.σ 14=I k∧t.σ 55=I A.length∧t.σ 56=I q) (by simp[go_sem,hi,zmq,h5,h11,ha,h12,h55,h56,hlt]) ?_
         clear h5 h11 ha h12 h55 h56 hneg
         rintro t ⟨h5,h11,h12,h13,h14,h55,h56⟩
         have hlen75:(L.take k++L.drop (k+1)).length≤5:=by rw[← hcut];exact hLl
         have hL2:L.take k++(L.drop (k+1)).take (L.length - (k+1))=L.eraseIdx k:=by rw[hcut,List.take_of_length_le (Nat.le_of_eq (List.length_drop))]
         refine AWp_post ?_
         intro Q' hQ'
         have rest:∀ t:St,t.σ 5=evs A→t.σ 11=B b→fz t 75 (t.σ 12)=kps (L.eraseIdx k)→t.σ 13=I q→t.σ 55=I A.length→t.σ 56=I q→Q' .normal t:=by
          intro t h5 h11 h12 h13 h55 h56
          subst hQ'
          generalize ha:t.σ 12=a12 at h12
          have hbb:(e.kind==1||(A.take (q+1)).any fun x=>x.kind==1)=(b||A[q].kind==1):=by rw[hb',← Bool.or_assoc,← hb]
          cases b with
          | true =>
           simp[go_sem,zmq,h5,h11,ha,h13,h55,h56,hlt,yro hlt hAm]
           exact⟨A.length - (q+1),by omega,q+1,by omega,rfl,L.eraseIdx k,h12,rfl,hLl,hL',by simpa using hbb⟩
          | false =>
           by_cases hx:A[q].kind=1
           · simp[go_sem,zmq,h5,h11,ha,h13,h55,h56,hlt,yro hlt hAm,hx]
             exact⟨A.length - (q+1),by omega,q+1,by omega,rfl,L.eraseIdx k,h12,rfl,hLl,hL',by simpa [hx] using hbb⟩
           · simp[go_sem,zmq,h5,h11,ha,h13,h55,h56,hlt,yro hlt hAm,hx]
             have hxf:(A[q].kind==1)=false:=by simpa using hx
             rw[hxf]at hbb
             exact⟨A.length - (q+1),by omega,q+1,by omega,rfl,L.eraseIdx k,h12,rfl,hLl,hL',by simpa using hbb⟩
         refine AWp.draw (n:=8) [] rfl (by kernel_rfl) ?_
         simp[go_sem,h5,h11,h12,h13,h14,h55,h56,hlt,hkL,hk1,t1,t2,yro hk hLm]
         refine⟨⟨by omega,by omega⟩,fun hy=>?_,fun _ hy=>?_⟩
         · refine rest _ (by simp[go_sem,h5]) (by simp[go_sem,h11]) ?_ (by simp[go_sem,h13]) (by simp[go_sem,h55]) (by simp[go_sem,h56])
           have hy':L.drop (k+1)=[]:=List.drop_eq_nil_of_le (by omega)
           simp[go_sem,hcut,hy']
         · refine rest _ (by simp[go_sem,h5]) (by simp[go_sem,h11]) ?_ (by simp[go_sem,h13]) (by simp[go_sem,h55]) (by simp[go_sem,h56])
           simp[go_sem,← hL2]
     · rw[List.take_of_length_le (by omega)]at hL hb
       have hend:zld l e=zp4 b:=by rw[hfit,hL,hb];rfl
       cases b with
       | true =>
        simp[go_sem,h5,h11,h55,h56,hlt]
        refine PostR.ret ?_
        simp[go_sem,hend,zp4]
       | false =>
        simp[go_sem,h5,h11,h55,h56,hlt]
        refine PostR.ret ?_
        simp[go_sem,hend,zp4]
end Go.Proofs.YthjmjdleecmaeaaGreat
namespace Go.Proofs.YthjmjdleecmaeaaGreat
open Go Go.Abs
end Go.Proofs.YthjmjdleecmaeaaGreat
namespace Go.Proofs.YthjmjdleecmaeaaGreat
open Go Go.Abs Go.Proofs.Tryz
def fromK (A:List Evt) (k:EntD):Option Evt:=A.find? fun x=>zlc x k
def froms (A:List Evt) (K:List EntD):List Evt:=K.filterMap (fromK A)
def zmb (l:List Evt) (e:Evt):List Evt:=froms (ofIds l e.auth) (zpj e)
theorem zmi {A:List Evt} {L:List EntD} {q:Nat} (h:q < L.length):froms A (L.take (q+1))=froms A (L.take q)++(fromK A L[q]).toList:=by
 unfold froms
 rw[List.take_succ_eq_append_getElem h,List.filterMap_append]
 simp only[List.filterMap_cons,List.filterMap_nil]
 cases fromK A L[q]<;>rfl
theorem zmf (A:List Evt) (L:List EntD):(froms A L).length≤L.length:=List.length_filterMap_le _ _
theorem zma (A:List Evt) (x:Evt) (k:EntD) (h:fromK A k=none):fromK (A++[x]) k=if zlc x k=true then some x else none:=by
 unfold fromK at h ⊢
 rw[List.find?_append,h]
 cases hp:zlc x k<;>simp[hp]
theorem zl9 (A B:List Evt) (x:Evt) (k:EntD) (h:fromK A k=some x):fromK (A++B) k=some x:=by
 unfold fromK at h ⊢
 rw[List.find?_append,h];rfl
theorem zs3 (l:List Evt) (ids:List Int) (q:Nat):ofIds l ids=ofIds l (ids.take q)++ofIds l (ids.drop q):=by
 unfold ofIds
 rw[← List.filterMap_append,List.take_append_drop]
theorem zme (l:List Evt) (e:Evt) (hsz:e.auth.length≤100000):AC prog 98 [evs l,ev e] (evs (zmb l e)):=by
 refine AC.ob func98 ntmps98 results98 (zzj (zyk _) (zyh _)) (zw6 _) fun w S'=>AWp.of_vc [] ?_
 have hma:e.auth.length≤maxLen:=by unfold maxLen;omega
 have hle:=zpk e
 have hm:(zpj e).length≤maxLen:=by unfold maxLen;omega
 unfold zmb
 generalize hL:zpj e=L at hle hm ⊢
 generalize hA:ofIds l e.auth=A
 simp[go_sem]
 refine cpu (zpl e) ?_
 rw[hL]
 simp[go_sem]
 refine AWp.ownNil 6 45 29 (by simp[go_sem]) ?_
 refine AWp.loop_vc [] (fun m s'=>∃ q v:Nat,q≤L.length∧m=L.length - q∧s'.σ 0=evs l∧s'.σ 3=.eptr (evc e) 0∧s'.σ 5=.fn (.func 152) [] []∧s'.σ 14=kps L∧s'.σ 15=I L.length∧s'.σ 16=I q∧s'.σ 6=.ref 6 v∧s'.ver 6=v∧s'.h 6=.arr 45 29 ((froms A (L.take q)).map ev)) L.length ⟨0,1,by simp[go_sem,froms]⟩ ?_
 rintro m s' ⟨q,v,hq,rfl,h0,h3,h5,h14,h15,h16,h6,hv6,hh6⟩
 by_cases hlt:q < L.length
 · simp[go_sem,h0,h3,h5,h14,h15,h16,h6,hv6,hh6,hlt,yro hlt hm]
   refine AWp.loop_vc [] (fun m s''=>∃ j v8:Nat,j≤e.auth.length∧m=e.auth.length - j∧s''.σ 0=evs l∧s''.σ 3=.eptr (evc e) 0∧s''.σ 5=.fn (.func 152) [] []∧s''.σ 14=kps L∧s''.σ 15=I L.length∧s''.σ 16=I q∧s''.σ 6=.ref 6 v∧s''.ver 6=v∧s''.h 6=.arr 45 29 ((froms A (L.take q)).map ev)∧s''.σ 21=ints e.auth∧s''.σ 22=I e.auth.length∧s''.σ 23=I j∧s''.σ 8=.rptr 8 v8 0 0∧s''.ver 8=v8∧s''.h 8=.box (kenc L[q])∧fromK (ofIds l (e.auth.take j)) L[q]=none) e.auth.length ⟨0,s'.ver 8+1,by simp[go_sem,h0,h3,h5,h14,h15,h16,h6,hv6,hh6,ofIds,fromK]⟩ ?_
   clear h0 h3 h5 h14 h15 h16 h6 hv6 hh6
   rintro m s'' ⟨j,v8,hj,rfl,h0,h3,h5,h14,h15,h16,h6,hv6,hh6,h21,h22,h23,h8,hv8,hh8,hno⟩
   have hhl:=zmf A (L.take q)
   rw[List.length_take]at hhl
   have hsu:=zmi (A:=A) hlt
   by_cases hjl:j < e.auth.length
   · have hou:=zs4 (l:=l) hjl
     simp[go_sem,h0,h3,h5,h14,h15,h16,h6,hv6,hh6,h21,h22,h23,h8,hv8,hh8,hjl]
     refine cpu (yi1 l e.auth[j]) ?_
     cases hg:getE l e.auth[j] with
     | none =>
      rw[hg]at hou
      simp only[Option.toList_none,List.append_nil]at hou
      simp[go_sem,h0,h3,h5,h14,h15,h16,h6,hv6,hh6,h21,h22,h23,h8,hv8,hh8,hjl,yro hjl hma]
      exact⟨e.auth.length - (j+1),by omega,j+1,by omega,rfl,rfl,by rw[hou];exact hno⟩
     | some x =>
      rw[hg]at hou
      simp only[Option.toList_some]at hou
      have hsn:=zma _ x _ hno
      rw[← hou]at hsn
      simp[go_sem,h0,h3,h5,h14,h15,h16,h6,hv6,hh6,h21,h22,h23,h8,hv8,hh8,hjl]
      refine CallSem.pure (in_ac L[q] x) (by simp[go_sem,kp,ev,evc]) ?_
      cases hp:zlc x L[q] with
      | true =>
       have hp':=hp
       unfold zlc at hp'
       rw[hp]at hsn
       have hfk:=zl9 _ (ofIds l (e.auth.drop (j+1))) x _ hsn
       rw[← zs3,hA]at hfk
       rw[hfk]at hsu
       simp[go_sem,h0,h3,h5,h14,h15,h16,h6,hv6,hh6,h21,h22,h23,h8,hv8,hh8,hjl,hp',yro hlt hm]
       exact⟨⟨by omega,by omega⟩,L.length - (q+1),by omega,q+1,by omega,rfl,rfl,by rw[hsu];simp[ev,evc]⟩
      | false =>
       have hp':=hp
       unfold zlc at hp'
       rw[hp]at hsn
       simp[go_sem,h0,h3,h5,h14,h15,h16,h6,hv6,hh6,h21,h22,h23,h8,hv8,hh8,hjl,hp',yro hjl hma]
       exact⟨e.auth.length - (j+1),by omega,j+1,by omega,rfl,rfl,hsn⟩
   · rw[List.take_of_length_le (by omega),hA]at hno
     rw[hno]at hsu
     simp[go_sem,h0,h3,h5,h14,h15,h16,h6,hv6,hh6,h21,h22,h23,h8,hv8,hh8,hjl,yro hlt hm]
     exact⟨L.length - (q+1),by omega,q+1,by omega,rfl,rfl,by rw[hsu];simp⟩
 · simp[go_sem,h0,h3,h5,h14,h15,h16,h6,hv6,hh6,hlt]
   rw[List.take_of_length_le (by omega)]at hh6
   refine PostR.retW [6] ?_ (.refl _)
   simp[go_sem,h6,hv6,hh6]
theorem find_hit {α:Type} {p:α→Bool} {l:List α} {k:Nat} (h:k < l.length) (hup:AllUp (fun x=>!p x) l k) (hp:p l[k]=true):l.find? p=some l[k]:=by
 rw[List.find?_eq_some_iff_getElem]
 refine⟨hp,k,h,rfl,fun j hj=>?_⟩
 unfold AllUp at hup
 rw[List.all_eq_true]at hup
 exact hup l[j] (List.mem_of_getElem? (i:=j) (by rw[List.getElem?_take_of_lt hj,List.getElem?_eq_getElem (by omega)]))
theorem zkh {α:Type} {p:α→Bool} {l:List α} {k:Nat} (h:¬ k < l.length) (hup:AllUp (fun x=>!p x) l k):l.find? p=none:=by
 have:=hup.full h
 rw[List.all_eq_true]at this
 rw[List.find?_eq_none]
 intro x hx
 have:=this x hx
 simpa using this
theorem ypp (v:Levels) (u:Bytes) (hsz:v.users.length≤1000000000):AC prog 136 [.agg (lvsc v),S u] (I (ypo v u)):=by
 refine AC.ob func136 ntmps136 results136 (zzj (zy1 _) (zx2 _)) (zx1 _) fun w S'=>AWp.of_vc [] ?_
 have hm:v.users.length≤maxLen:=by unfold maxLen;omega
 simp[go_sem,lvsc]
 refine AWp.loop_vc [] (fun m s=>∃ k:Nat,k≤v.users.length∧m=v.users.length - k∧s.σ 1=S u∧s.σ 2=.eptr (lvsc v) 0∧s.σ 8=.lst 2 (v.users.map fun u=>.agg (lvc u))∧s.σ 9=I v.users.length∧s.σ 10=I k∧AllUp (fun x:Level=>!(x.user==u)) v.users k) v.users.length ⟨0,by simp[go_sem,lvsc,AllUp.zero]⟩ ?_
 rintro m s ⟨k,hk,rfl,h1,h2,h8,h9,h10,hup⟩
 by_cases hlt:k < v.users.length
 · cases hc:(v.users[k].user==u) with
   | true =>
    have hr:ypo v u=v.users[k].n:=by unfold ypo;rw[find_hit (p:=fun x:Level=>x.user==u) hlt hup hc]
    simp[go_sem,lvsc,lvc,h1,h2,h8,h9,h10,hlt,hc]
    refine PostR.ret ?_
    simp[go_sem,hr]
   | false =>
    simp[go_sem,lvsc,lvc,h1,h2,h8,h9,h10,hlt,hc,yro hlt hm]
    exact⟨v.users.length - (k+1),by omega,k+1,by omega,rfl,rfl,hup.succ hlt (by simp only[hc];rfl)⟩
 · have hr:ypo v u=v.user:=by unfold ypo;rw[zkh (p:=fun x:Level=>x.user==u) hlt hup]
   simp[go_sem,lvsc,h1,h2,h8,h9,h10,hlt]
   refine PostR.ret ?_
   simp[go_sem,hr]
def lvT (l:List Evt):AV:=.tup [.agg (lvsc (lvOf l)),S (crOf l)]
theorem zq0 (l:List Evt) (hl:∀ e∈l,Mod e):AC prog 135 [evs l] (lvT l):=by
 refine AC.ob func135 ntmps135 results135 (zzi (zyk _)) (zxg _ _) fun w S'=>AWp.of_vc [] ?_
 have hinj:∀ d d':Nat,d≠d'→d≠d':=fun _ _ h=>h
 unfold lvT
 simp[go_sem]
 refine cpu (zla l 1) ?_
 have second:∀ {c:Bytes},c=crOf l→crOf l=c:=fun h=>h.symm
 rcases zn3 (fun e:Evt=>e.kind==1) l with ⟨hf,hi⟩|⟨j,hj,hf,hi⟩
 · have hcr:crOf l=[]:=by unfold crOf;rw[hf]
   simp[go_sem,hi]
   refine cpu (zla l 3) ?_
   rcases zn3 (fun e:Evt=>e.kind==3) l with ⟨hf3,hi3⟩|⟨j3,hj3,hf3,hi3⟩
   · have hlv:lvOf l=defLv []:=by unfold lvOf;rw[hf3,hcr]
     simp[go_sem,hi3]
     refine cpu (zh3 []) ?_
     rw[hlv,hcr]
     generalize defLv []=v
     simp[go_sem,lvsc]
     refine PostR.ret ?_
     simp[go_sem,lvsc]
   · have hlv:lvOf l=l[j3].content.levels:=by unfold lvOf;rw[hf3]
     have hM:=hl _ (List.getElem_mem hj3)
     have ha:=hM.a4
     have hb:=hM.a5
     rw[hlv,hcr]
     have hneg:¬ ((j3:Int) < 0):=by omega
     simp[go_sem,hi3,hneg,hj3,evc_lv,lvsc]
     refine AWp.drawText [] [] [7] [28,31] rfl (by kernel_rfl) hinj ?_
     simp[go_sem,lvsc]
     refine CalmThen.pure (zgn l[j3].content.levels.users (by omega)) rfl ?_
     simp[go_sem,lvsc]
     refine CalmThen.pure (zgm l[j3].content.levels.kinds (by omega)) rfl ?_
     simp[go_sem,lvsc]
     refine PostR.ret ?_
     simp[go_sem,lvsc]
 · have hcr:crOf l=l[j].sender:=by unfold crOf;rw[hf]
   have hneg1:¬ ((j:Int) < 0):=by omega
   simp[go_sem,hi,hneg1,hj]
   refine cpu (zla l 3) ?_
   rcases zn3 (fun e:Evt=>e.kind==3) l with ⟨hf3,hi3⟩|⟨j3,hj3,hf3,hi3⟩
   · have hlv:lvOf l=defLv (crOf l):=by unfold lvOf;rw[hf3]
     rw[hcr]at hlv
     rw[hlv,hcr]
     simp[go_sem,hi3]
     refine cpu (zh3 l[j].sender) ?_
     generalize defLv l[j].sender=v
     simp[go_sem,lvsc]
     refine PostR.ret ?_
     simp[go_sem,lvsc]
   · have hlv:lvOf l=l[j3].content.levels:=by unfold lvOf;rw[hf3]
     have hM:=hl _ (List.getElem_mem hj3)
     have ha:=hM.a4
     have hb:=hM.a5
     rw[hlv,hcr]
     have hneg:¬ ((j3:Int) < 0):=by omega
     simp[go_sem,hi3,hneg,hj3,evc_lv,lvsc]
     refine AWp.drawText [] [] [7] [28,31] rfl (by kernel_rfl) hinj ?_
     simp[go_sem,lvsc]
     refine CalmThen.pure (zgn l[j3].content.levels.users (by omega)) rfl ?_
     simp[go_sem,lvsc]
     refine CalmThen.pure (zgm l[j3].content.levels.kinds (by omega)) rfl ?_
     simp[go_sem,lvsc]
     refine PostR.ret ?_
     simp[go_sem,lvsc]
theorem zmg {A:List Evt} {K:List EntD}:∀ e∈froms A K,e∈A:=fun e he=>by
 unfold froms at he
 obtain⟨k,_,hk⟩:=List.mem_filterMap.1 he
 exact List.mem_of_find?_eq_some hk
theorem zmd {l:List Evt} {x:Evt}:∀ e∈zmb l x,e∈l:=fun e he=>by
 have h1:=zmg e he
 unfold ofIds at h1
 obtain⟨n,_,hn⟩:=List.mem_filterMap.1 h1
 exact List.mem_of_find?_eq_some hn
theorem zmc (l:List Evt) (x:Evt):(zmb l x).length≤(zpj x).length:=zmf _ _
def yh2 (l:List Evt) (e:Evt):Int:=ypo (lvOf (zmb l e)) e.sender
theorem zqy {l:List Evt} (hl:∀ e∈l,Mod e):(lvOf l).users.length≤10000000:=by
 unfold lvOf
 cases hf:l.find? (fun e=>e.kind==3) with
 | some e =>
  have h:=(hl e (List.mem_of_find?_eq_some hf)).a4
  simp only
  omega
 | none =>
  unfold defLv
  simp only
  split<;>simp
theorem yh3 (l:List Evt) (e:Evt) (hl:∀ e∈l,Mod e) (ha40:e.auth.length≤40):AC prog 302 [evs l,ev e] (I (yh2 l e)):=by
 refine AC.ob func302 ntmps302 results302 (zzj (zyk _) (zyh _)) (zx1 _) fun w S'=>AWp.of_vc [] ?_
 unfold yh2
 simp[go_sem]
 refine cpu (zme l e (by omega)) ?_
 have hF:∀ x∈zmb l e,Mod x:=fun x hx=>hl x (zmd x hx)
 generalize zmb l e=F at hF ⊢
 simp[go_sem]
 refine cpu (zq0 F hF) ?_
 unfold lvT
 have hu:=zqy hF
 generalize lvOf F=v at hu ⊢
 simp[go_sem,lvsc]
 refine cpu (ypp v e.sender (by omega)) ?_
 simp[go_sem]
 exact rets
def ygv (l:List Evt):Option Evt:=l.find? fun e=>e.kind==4
def ygw (l:List Evt):Int:=match ygv l with
 | some e=>e.content.n
 | none=>0
def rulesA (l:List Evt):List Bytes:=match ygv l with
 | some e=>e.content.allow
 | none=>[]
def ygu (l:List Evt):AV:=.tup [I (ygw l),strs (rulesA l)]
theorem zxp (l:List Evt):PureR (ygu l):=by
 intro r hr
 simp only[List.mem_cons,List.not_mem_nil,or_false]at hr
 rcases hr with rfl|rfl
 · exact zx1 _
 · exact zzf _
theorem ygy (l:List Evt) (hs:∀ e∈l,SmE e) (hsz:l.length≤1000000000):AC prog 200 [evs l] (ygu l):=by
 refine AC.ob func200 ntmps200 results200 (zzi (zyk _)) (zxp _) fun w S'=>AWp.of_vc [18] ?_
 obtain⟨o,ho⟩:∃ o,ygv l=o:=⟨_,rfl⟩
 unfold ygu ygw rulesA
 rw[ho]
 unfold ygv at ho
 simp[go_sem]
 refine AWp.loop_vc [18] (fun m s=>∃ q:Nat,q≤l.length∧m=l.length - q∧s.σ 6=evs l∧s.σ 7=I l.length∧s.σ 8=I q∧∀ (j:Nat) (hj:j < l.length),j < q→(l[j].kind==4)=false) l.length ⟨0,by simp[go_sem]⟩ ?_
 rintro m s ⟨q,hq,rfl,h6,h7,h8,hno⟩
 have hws:IntKind.i64.wrap ((q:Int)+1)=(q:Int)+1:=wrapB (by omega) (by omega)
 by_cases hlt:q < l.length
 · obtain⟨x,hx⟩:∃ x,l[q]=x:=⟨_,rfl⟩
   by_cases hk:x.kind=4
   · rw[zkv hlt (by rw[hx];simp[hk]) (fun j hj hjq=>hno j hj hjq),hx]at ho
     rw[← ho]
     have hsm:=hs x (hx ▸ List.getElem_mem hlt)
     simp[go_sem,h6,h7,h8,hlt,hx,hk]
     refine AWp.drawAny [18] [18] [] [] [0,1,2,4,5,6,3,7,8,9] rfl (by kernel_rfl) (fun d d' h=>h) rfl ?_
     have hal:x.content.allow.length≤10000000:=by
      have h1:=(ze1 x.content.allow).2
      have h2:=hsm.c
      unfold SmC bkC at h2
      omega
     simp[go_sem,h6,h7,h8,hlt,hx,hk,evc]
     refine⟨by omega,?_⟩
     refine PostR.retW [18] (r0:=.tup [I x.content.n,strs x.content.allow]) (by simp[go_sem]) (.refl _)
   · have hk2:(x.kind==4)=false:=beq_eq_false_iff_ne.2 hk
     simp[go_sem,h6,h7,h8,hlt,hx,hk,hk2,hws]
     refine⟨l.length - (q+1),by omega,q+1,by omega,rfl,rfl,fun j hj hjq=>?_⟩
     rcases Nat.lt_succ_iff_lt_or_eq.1 hjq with h|rfl
     · simpa using hno j hj h
     · rw[hx];exact hk
 · rw[zks fun j hj=>hno j hj (by omega)]at ho
   rw[← ho]
   simp[go_sem,h6,h7,h8,hlt]
   refine PostR.retW [] (r0:=.tup [I 0,.v (.slice none 0 0)]) (by simp[go_sem]) ?_
   exact .tup ⟨.refl _,.one (.nil _),trivial⟩
def joinI (rule now:Int):Int:=if now=3 then 0 else if rule=1 then 0 else if (rule=2∨rule=3∨rule=0)∧now=1 then 0 else 21
def zpt (rule now:Int):Int:=if rule≠2 then 21 else if now=0∨now=2 then 0 else 21
theorem join_ac (rule now:Int):AC prog 201 [I rule,I now] (I (joinI rule now)):=by
 refine AC.ob func201 ntmps201 results201 (zzj (zx1 _) (zx1 _)) (zx1 _) fun w S'=>AWp.of_vc [] ?_
 unfold joinI
 by_cases h1:now=3
 · simp[go_sem,h1]
   exact rets
 by_cases h2:rule=1
 · simp[go_sem,h1,h2]
   exact rets
 by_cases h3:rule=2
 · by_cases h4:now=1 <;>
   · simp[go_sem,h1,h2,h3,h4]
     exact rets
 by_cases h5:rule=3
 · by_cases h4:now=1 <;>
   · simp[go_sem,h1,h2,h3,h4,h5]
     exact rets
 by_cases h6:rule=0
 · by_cases h4:now=1 <;>
   · simp[go_sem,h1,h2,h3,h4,h5,h6]
     exact rets
 simp[go_sem,h1,h2,h3,h5,h6]
 exact rets
theorem knock_ac (rule now:Int):AC prog 202 [I rule,I now] (I (zpt rule now)):=by
 refine AC.ob func202 ntmps202 results202 (zzj (zx1 _) (zx1 _)) (zx1 _) fun w S'=>AWp.of_vc [] ?_
 unfold zpt
 by_cases h1:rule=2
 · by_cases h2:now=0
   · simp[go_sem,h1,h2]
     exact rets
   by_cases h3:now=2
   · simp[go_sem,h1,h2,h3]
     exact rets
   simp[go_sem,h1,h2,h3]
   exact rets
 · have g1:(rule==2)=false:=beq_eq_false_iff_ne.2 h1
   have g2:(rule != 2)=true:=bne_iff_ne.2 h1
   simp[go_sem,h1,g1,g2]
   exact rets
end Go.Proofs.YthjmjdleecmaeaaGreat
