/- Several texts of the proof in one: M8, P2. No condition. -/
import Derived.Test.YthjmjdleecmaeaaGreatL27
set_option linter.unusedSimpArgs false
set_option linter.unusedVariables false
set_option maxHeartbeats 4000000
set_option maxRecDepth 8000
namespace Go.Proofs.YthjmjdleecmaeaaGreat
open Go Go.Abs Go.Shelf Go.RowKit Go.Lib Go.Sort Go.Proofs Go.Proofs.Tryz
def compU (L:List Item):Nat→List Item
 | 0=>[]
 | m+1=>if m≠0∧L[m]? = L[m - 1]? then compU L m else compU L m++(L[m]?).toList
def comp (L:List Item):List Item:=compU L L.length
def order2 (l:List Evt) (main ids:List Int):List Int:=(comp (yjg (zo1 l main ids))).map (·.id)
theorem zg8 {L:List Item} {m:Nat} (h0:m≠0) (h:L[m]? = L[m - 1]?):compU L (m+1)=compU L m:=by rw[compU,if_pos ⟨h0,h⟩]
theorem zg7 {L:List Item} {m:Nat} {a:Item} (ha:L[m]? = some a) (h:L[m]? ≠ L[m - 1]? ∨ m=0):compU L (m+1)=compU L m++[a]:=by
 rw[compU,if_neg (fun hc=>h.elim (fun g=>g hc.2) (fun g=>hc.1 g)),ha];rfl
theorem zg4 {L:List Item}:∀ {q:Nat},(∀ j,j < q→L[j+1]? ≠ L[j]?)→q+1≤L.length→compU L (q+1)=L.take (q+1)
 | 0,_,hq=>by
  rw[zg7 (List.getElem?_eq_getElem (by omega)) (.inr rfl)]
  show []++[L[0]]=_
  cases L with
  | nil=>simp at hq
  | cons x l=>rfl
 | q+1,h,hq=>by
  rw[zg7 (List.getElem?_eq_getElem (by omega)) (.inl (h q (by omega))),zg4 (fun j hj=>h j (by omega)) (by omega),List.take_succ_eq_append_getElem (i:=q+1) (by omega)]
theorem zg5 (L:List Item):∀ m,(compU L m).length≤m
 | 0=>Nat.le_refl _
 | m+1=>by
  have:=zg5 L m
  rw[compU]
  split
  · omega
  · rw[List.length_append];have:(L[m]?).toList.length≤1:=by cases L[m]? <;> simp
    omega
theorem zu9 (l:List Evt) (main ids:List Int) (hsz:l.length≤100000) (hf:Few l) (hid:ids.length≤100000):AC prog 304 [evs l,ints main,ints ids] (ints (order2 l main ids)):=by
 refine AC.ob func304 ntmps304 results304 (zzk (zyk _) (zyr _) (zyr _)) (zxe _) fun w S'=>AWp.of_vc [] ?_
 have hm:ids.length≤maxLen:=by unfold maxLen;omega
 have hil:=zo2 l main ids
 simp[go_sem]
 refine AWp.ownNil 7 341 3 (by simp[go_sem]) ?_
 refine AWp.loop_vc [] (fun m s=>∃ q v:Nat,q≤ids.length∧m=ids.length - q∧s.σ 0=evs l∧s.σ 1=ints main∧s.σ 15=ints ids∧s.σ 16=I ids.length∧s.σ 17=I q∧s.σ 7=.ref 7 v∧s.ver 7=v∧s.h 7=.arr 341 3 ((zo1 l main (ids.take q)).map it)) ids.length ⟨0,1,by simp[go_sem,zo1]⟩ ?_
 rintro m s ⟨q,v,hq,rfl,h0,h1,h15,h16,h17,h7,hv7,hh7⟩
 have hol:=zo2 l main (ids.take q)
 rw[List.length_take]at hol
 by_cases hlt:q < ids.length
 · have hsu:=zo3 (l:=l) (main:=main) hlt
   simp[go_sem,h0,h1,h15,h16,h17,h7,hv7,hh7,hlt]
   refine cpu (yi1 l ids[q]) ?_
   unfold zo0 at hsu
   cases hg:getE l ids[q] with
   | none =>
    rw[hg]at hsu
    simp[go_sem,h0,h1,h15,h16,h17,h7,hv7,hh7,hlt,yro hlt hm]
    exact⟨ids.length - (q+1),by omega,q+1,by omega,rfl,rfl,by rw[hsu];simp⟩
   | some x =>
    rw[hg]at hsu
    simp[go_sem,h0,h1,h15,h16,h17,h7,hv7,hh7,hlt]
    refine AWp.draw (n:=10) [] rfl (by kernel_rfl) ?_
    simp[go_sem,h0,h1,h15,h16,h17,h7,hv7,hh7,hlt]
    refine CalmThen.pure (close_ac l main ids[q] hsz hf) rfl ?_
    simp[go_sem,h0,h1,h15,h16,h17,h7,hv7,hh7,hlt,yro hlt hm]
    exact⟨⟨by omega,by omega⟩,ids.length - (q+1),by omega,q+1,by omega,rfl,rfl,by rw[hsu];simp[it,I]⟩
 · rw[List.take_of_length_le (by omega)]at hh7
   unfold order2
   unfold yjg
   generalize hI:zo1 l main ids=items at hil hh7 ⊢
   simp[go_sem,h0,h1,h15,h16,h17,h7,hv7,hh7,hlt]
   refine CallSem.sortK (ρ:=sortF306_ren) (id:=7) (e:=341) (k:=3) (l:=items) sortF306 ⟨_,func306,rfl,rfl⟩
    Tryz.isAgg341 Tryz.sizeOf341 itc (by decide) itc_len itc_one cmpT cmpT_swo cmpT_tot (enters_of func307 (by kernel_rfl) rfl) zgz (by simp[go_sem,hv7]) (by simp[go_sem,hh7];rfl) (by simp[go_sem]) (by omega) ?_
   have hml:(items.mergeSort fun x y=>!(ltOf cmpT) y x).length=items.length:=List.length_mergeSort _
   generalize items.mergeSort (fun x y=>!(ltOf cmpT) y x)=L at hml ⊢
   have hLm:L.length≤maxLen:=by unfold maxLen;omega
   have hCl:=zg5 L L.length
   simp[go_sem,its_eq,h7,hv7]
   refine CallSem.inline 30000 func309 rfl rfl ntmps309 (congrArg Array.toList results309) (by simp) (by simp[go_sem]) fun e1=>zaa fun Q' hQ=>AWp.of_vc [] ?_
   have key1:comp L=L→∀ s':St,s'.σ 2=.ref 7 v→s'.ver 7=v→s'.h 7=.arr 341 3 (L.map it)→Q' .ret s':=by
    intro hC s' g2 gv gh
    rw[hQ]
    refine PostIn.ret (r:=.ref 7 v) (by simp[go_sem,resIn,g2]) ?_
    clear hQ Q'
    simp[go_sem,gv,gh]
    refine AWp.freeze 7 ?_
    refine AWp.ownNil 12 3 1 (by simp[go_sem]) ?_
    rw[hC]
    refine AWp.loop_vc [] (fun m t=>∃ q u:Nat,q≤L.length∧m=L.length - q∧t.σ 43=.lst 3 (L.map it)∧t.σ 44=I L.length∧t.σ 45=I q∧t.σ 12=.ref 12 u∧t.ver 12=u∧t.h 12=.arr 3 1 (outI L q)) L.length ⟨0,s'.ver 12+1,by simp[go_sem,gv,gh,zvo]⟩ ?_
    clear g2 gv gh
    rintro m t ⟨q,u,hq,rfl,k43,k44,k45,k12,kv12,kh12⟩
    by_cases hlt:q < L.length
    · have hstep:=zvn hlt
      have hql:=zvm hq
      simp[go_sem,k43,k44,k45,k12,kv12,kh12,hlt,it,yro hlt hLm]
      exact⟨⟨by omega,by omega⟩,L.length - (q+1),by omega,q+1,by omega,rfl,rfl,hstep.symm⟩
    · rw[zvl (by omega)]at kh12
      simp[go_sem,k43,k44,k45,k12,kv12,kh12,hlt]
      refine PostR.retW [12] ?_ (.refl _)
      simp[go_sem,k12,kv12,kh12]
   have key2:∀ (s':St) (k:Nat) (R:List AV),k≤R.length→R.take k=(comp L).map it→s'.σ 2=.osl 7 v 0 k false→s'.ver 7=v→s'.h 7=.arr 341 3 R→Q' .ret s':=by
    intro s' k R hk hR g2 gv gh
    rw[hQ]
    refine PostIn.ret (r:=.osl 7 v 0 k false) (by simp[go_sem,resIn,g2]) ?_
    clear key1
    clear hQ Q'
    have hkl:k=(comp L).length:=by
     have:=congrArg List.length hR
     rw[List.length_take,List.length_map]at this;omega
    have hCm:(comp L).length≤maxLen:=by unfold comp;omega
    have hC0:(comp L).length≤L.length:=hCl
    clear hCl
    generalize comp L=C at hR hkl hCm hC0 ⊢
    subst hkl
    simp[go_sem,gv,gh,hk]
    refine AWp.freeze 7 ?_
    refine AWp.ownNil 12 3 1 (by simp[go_sem]) ?_
    refine AWp.loop_vc [] (fun m t=>∃ q u:Nat,q≤C.length∧m=C.length - q∧t.σ 43=.lst 3 (C.map it)∧t.σ 44=I C.length∧t.σ 45=I q∧t.σ 12=.ref 12 u∧t.ver 12=u∧t.h 12=.arr 3 1 (outI C q)) C.length ⟨0,s'.ver 12+1,by simp[go_sem,gv,gh,zvo,hk,hR]⟩ ?_
    clear g2 gv gh hR hk
    rintro m t ⟨q,u,hq,rfl,k43,k44,k45,k12,kv12,kh12⟩
    by_cases hlt:q < C.length
    · have hstep:=zvn hlt
      have hql:=zvm hq
      simp[go_sem,k43,k44,k45,k12,kv12,kh12,hlt,it,yro hlt hCm]
      exact⟨⟨by omega,by omega⟩,C.length - (q+1),by omega,q+1,by omega,rfl,rfl,hstep.symm⟩
    · rw[zvl (by omega)]at kh12
      simp[go_sem,k43,k44,k45,k12,kv12,kh12,hlt]
      refine PostR.retW [12] ?_ (.refl _)
      simp[go_sem,k12,kv12,kh12]
   clear hQ
   by_cases hl2:L.length < 2
   · have hl2':(L.length:Int) < 2:=by omega
     simp[go_sem,h7,hv7,hl2']
     refine key1 ?_ _ (by simp[go_sem]) (by simp[go_sem,hv7]) (by simp[go_sem])
     cases hz:L.length with
     | zero=>have:L=[]:=List.eq_nil_of_length_eq_zero hz;subst this;rfl
     | succ q =>
      unfold comp
      rw[hz,zg4 (q:=q) (fun j hj=>by omega) (by omega),List.take_of_length_le (by omega)]
   · have hl2':¬ (L.length:Int) < 2:=by omega
     simp[go_sem,h7,hv7,hl2']
     refine AWp.loop_vc [] (fun m s'=>∃ q:Nat,q+1≤L.length∧m=L.length - (q+1)∧(∀ j,j < q→L[j+1]? ≠ L[j]?)∧s'.σ 0=.ref 7 v∧s'.σ 3=I ((q:Int)+1)∧s'.ver 7=v∧s'.h 7=.arr 341 3 (L.map it)) (L.length - 1) ⟨0,by omega,by omega,fun j hj=>by omega,by simp[go_sem],by simp[go_sem],by simp[go_sem,hv7],by simp[go_sem]⟩ ?_
     rintro m s' ⟨q,hq,rfl,hno,g0,g3,gv,gh⟩
     by_cases hlt:q+1 < L.length
     · have hq':q < L.length:=by omega
       have hw:IntKind.i64.wrap (q:Int)=(q:Int):=yrl (by omega)
       have t1:(0:Int)≤(q:Int)+1:=by omega
       have t2:((q:Int)+1).toNat=q+1:=by omega
       have t4:(q:Int)+1 < L.length:=by omega
       have hws:IntKind.i64.wrap ((q:Int)+1+1)=(q:Int)+1+1:=by have:=yro hlt hLm;simpa using this
       simp[go_sem,g0,g3,gv,gh,t4]
       refine da ?_
       simp[go_sem,g0,g3,gv,gh,t1,t2,t4,hlt,hq',hw,it]
       by_cases hne:L[q+1]=L[q]
       · rw[if_pos (by rw[hne];exact⟨rfl,rfl,rfl⟩)]
         rw[if_pos hq]
         simp[go_sem,g0,g3,gv,gh,t1,t2]
         have hcs:compU L (q+2)=L.take (q+1):=by
          rw[zg8 (by omega) (by rw[List.getElem?_eq_getElem hlt,show q+1 - 1=q from rfl,List.getElem?_eq_getElem hq',hne]),zg4 hno (by omega)]
         refine AWp.loop_vc [] (fun m s2=>∃ (p k:Nat) (A:List Item),q+2+p≤L.length∧m=L.length - (q+2+p)∧k≤q+1+p∧A.length=L.length∧compU L (q+2+p)=A.take k∧(∀ j,q+1+p≤j→A[j]? = L[j]?)∧s2.σ 0=.ref 7 v∧s2.σ 4=.osl 7 v (q+1) L.length false∧s2.σ 5=I ((p:Int)+1)∧s2.σ 3=I k∧s2.ver 7=v∧s2.h 7=.arr 341 3 (A.map it)) (L.length - (q+2)) ⟨0,q+1,L,by omega,by omega,by omega,rfl,hcs,fun _ _=>rfl,by simp[go_sem,g0],by simp[go_sem],by simp[go_sem],by simp[go_sem,g3],by simp[go_sem,gv],by simp[go_sem,gh]⟩ ?_
         clear g0 g3 gv gh
         rintro m s2 ⟨p,k,A,hp,rfl,hk,hA,hcomp,hrest,g0,g4,g5,g3,gv,gh⟩
         have u0:(0:Int)≤(p:Int)+1:=by omega
         have u2:((p:Int)+1).toNat=p+1:=by omega
         have u1:IntKind.i64.wrap (p:Int)=(p:Int):=yrl (by omega)
         have u5:q+1≤A.length:=by omega
         have u6:L.length≤A.length:=by omega
         by_cases hlt2:q+2+p < L.length
         · have u4:(p:Int)+1 < ((L.length - (q+1):Nat):Int):=by omega
           have u7:(p:Int) < ((L.length - (q+1):Nat):Int):=by omega
           simp[go_sem,g0,g4,g5,g3,gv,gh,u0,u1,u2,u4,u5,u6,hq]
           refine da ?_
           have v1:q+1+(p+1) < A.length:=by omega
           have v2:q+1+p < A.length:=by omega
           simp[go_sem,g0,g4,g5,g3,gv,gh,u0,u1,u2,u4,u5,u6,u7,hq,v1,v2,it]
           have e1:A[q+1+(p+1)]? = L[q+2+p]? := by rw[hrest _ (by omega)];congr 1;omega
           have e2:A[q+1+p]? = L[q+2+p - 1]? := by rw[hrest _ (by omega)];congr 1;omega
           rw[List.getElem?_eq_getElem v1]at e1
           rw[List.getElem?_eq_getElem v2]at e2
           have hw2:IntKind.i64.wrap ((p:Int)+1+1)=(p:Int)+1+1:=wrap_i64 (by omega) (by omega)
           have hw3:IntKind.i64.wrap ((k:Int)+1)=(k:Int)+1:=wrap_i64 (by omega) (by omega)
           have u9:k < A.length:=by omega
           by_cases hab:A[q+1+(p+1)]=A[q+1+p]
           · rw[if_neg (by rw[hab];simp)]
             simp[go_sem,g0,g4,g5,g3,gv,gh,u0,u1,u2,u4,u5,u6,u7,hq,v1,v2,hw2]
             refine⟨L.length - (q+2+(p+1)),by omega,p+1,by omega,rfl,k,by omega,A,hA,?_,fun j hj=>hrest j (by omega),by simp,rfl,rfl⟩
             rw[show q+2+(p+1)=(q+2+p)+1 from rfl,zg8 (by omega) (by rw[← e1,← e2,hab]),hcomp]
           · have hneq:¬ A[q+1+(p+1)].id=A[q+1+p].id∨¬ A[q+1+(p+1)].closest=A[q+1+p].closest∨¬ A[q+1+(p+1)].time=A[q+1+p].time:=by
              rcases Classical.em (A[q+1+(p+1)].id=A[q+1+p].id) with x1|x1
              · rcases Classical.em (A[q+1+(p+1)].closest=A[q+1+p].closest) with x2|x2
                · refine .inr (.inr fun x3=>hab ?_)
                  cases hx:A[q+1+(p+1)];cases hy:A[q+1+p]
                  rw[hx,hy]at x1 x2 x3
                  simp only at x1 x2 x3
                  rw[x1,x2,x3]
                · exact .inr (.inl x2)
              · exact .inl x1
             rw[if_pos hneq]
             simp[go_sem,g0,g4,g5,g3,gv,gh,u0,u1,u2,u4,u5,u6,u7,u9,hq,v1,v2,hw2,hw3]
             refine⟨L.length - (q+2+(p+1)),by omega,p+1,by omega,rfl,k+1,by omega,A.set k A[q+1+(p+1)],by rw[List.length_set];exact hA,?_,fun j hj=>?_,by simp,by simp,?_⟩
             · rw[show q+2+(p+1)=(q+2+p)+1 from rfl,zg7 (L:=L) (m:=q+2+p) (a:=A[q+1+(p+1)]) e1.symm (.inl (by rw[← e1,← e2];intro h;exact hab (Option.some.inj h))),hcomp]
               rw[List.take_succ_eq_append_getElem (by rw[List.length_set];exact u9),List.take_set_of_le (Nat.le_refl _),List.getElem_set_self]
             · rw[List.getElem?_set_ne (by omega)];exact hrest j (by omega)
             · rw[List.map_set];rfl
         · have u4:¬ (p:Int)+1 < ((L.length - (q+1):Nat):Int):=by omega
           have u8:k≤A.length:=by omega
           simp[go_sem,g0,g4,g5,g3,gv,gh,u0,u1,u2,u4,u5,u6,u8,hq]
           refine⟨fun i hi=>by rcases i with _|_|_|i<;>first|rfl|omega,?_⟩
           have hpn:q+2+p=L.length:=by omega
           rw[hpn]at hcomp
           refine key2 _ k _ ?_ ?_ (by simp[go_sem]) (by simp[go_sem,gv]) (by simp[go_sem];rfl)
           · simp;omega
           · unfold comp
             rw[hcomp]
             simp[List.take_append,u8]
       · have hneq:L[q+1].id=L[q].id→L[q+1].closest=L[q].closest→¬ L[q+1].time=L[q].time:=fun a b c=>hne (by cases hx:L[q+1];cases hy:L[q];rw[hx,hy]at a b c;simp only at a b c;rw[a,b,c])
         rw[if_neg fun h=>hneq h.1 h.2.1 h.2.2]
         simp[go_sem,g0,g3,gv,gh,hws]
         refine⟨L.length - (q+1+1),by omega,q+1,by omega,rfl,fun j hj=>?_,by simp⟩
         rcases Nat.lt_succ_iff_lt_or_eq.1 hj with h|rfl
         · exact hno j h
         · rw[List.getElem?_eq_getElem hlt,List.getElem?_eq_getElem hq'];intro h;exact hne (Option.some.inj h)
     · have t4:¬ (q:Int)+1 < L.length:=by omega
       simp[go_sem,g0,g3,gv,gh,t4]
       refine key1 ?_ _ (by simp[go_sem,g0]) (by simp[go_sem,gv]) (by simp[go_sem,gh])
       unfold comp
       have hz:L.length=q+1:=by omega
       rw[hz,zg4 hno (by omega),List.take_of_length_le (by omega)]
end Go.Proofs.YthjmjdleecmaeaaGreat
namespace Go.Proofs.YthjmjdleecmaeaaGreat
open Go Go.Abs
theorem zws {a b c:EntD} (h:a.kind=b.kind∧a.key=b.key):prec a c=prec b c∧prec c a=prec c b:=by
 simp only[prec,h.1,h.2,and_self]
theorem zwt {a b:EntD} (h:prec a b=true):¬ (a.kind=b.kind∧a.key=b.key):=fun hk=>by
 rw[(zws hk).1,zwr]at h;cases h
theorem adj_pairwise {s:List EntD}:adj s=true↔s.Pairwise fun a b=>prec a b=true:=by
 induction s with
 | nil=>simp[adj]
 | cons a s ih =>
  cases s with
  | nil=>simp[adj]
  | cons b l =>
   rw[List.pairwise_cons]
   simp only[adj,Bool.and_eq_true,ih]
   constructor
   · rintro⟨h1,h2⟩
     refine⟨fun c hc=>?_,h2⟩
     rcases List.mem_cons.1 hc with rfl|hc
     · exact h1
     · exact zwv _ _ _ h1 ((List.pairwise_cons.1 h2).1 c hc)
   · rintro⟨h1,h2⟩
     exact⟨h1 b (by simp),h2⟩
theorem zkr {p:EntD→Bool} {l:List EntD} (h:∀ e∈l,p e=false):l.find? p=none:=by
 rw[List.find?_eq_none];intro x hx;simp[h x hx]
theorem cut {s:List EntD} (hs:adj s=true) (x:EntD):∃ p q,s=p++q∧p.length=fidx s x∧(∀ e∈p,prec e x=true) ∧
 ((fok s x=false∧∀ e∈q,prec x e=true)∨∃ e r,q=e::r∧fok s x=true∧(e.kind=x.kind∧e.key=x.key)∧∀ c∈r,prec x c=true):=by
 refine⟨s.takeWhile (fun e=>prec e x),s.dropWhile (fun e=>prec e x),List.takeWhile_append_dropWhile.symm,rfl,fun e he=>?_,?_⟩
 · have:=List.all_takeWhile (p:=fun e:EntD=>prec e x) (l:=s)
   rw[List.all_eq_true]at this
   exact this e he
 have hsplit:s=s.takeWhile (fun e=>prec e x)++s.dropWhile (fun e=>prec e x):=List.takeWhile_append_dropWhile.symm
 have hpw:(s.dropWhile (fun e=>prec e x)).Pairwise fun a b=>prec a b=true:=by
  have h1:=adj_pairwise.1 hs
  rw[hsplit,List.pairwise_append]at h1
  exact h1.2.1
 cases hq:s.dropWhile (fun e=>prec e x) with
 | nil =>
  refine .inl ⟨fok_out ?_,fun e h=>by cases h⟩
  rw[hq,List.append_nil]at hsplit
  unfold fidx
  rw[← hsplit];omega
 | cons e r =>
  rw[hq]at hpw
  have hlt:fidx s x < s.length:=by
   have h1:=congrArg List.length hsplit
   rw[hq,List.length_append,List.length_cons]at h1
   unfold fidx;omega
  have hat:s[fidx s x]=e:=by
   have h1:s[fidx s x]? = some e:=by
    unfold fidx
    conv=>lhs;lhs;rw[hsplit]
    rw[hq,List.getElem?_append_right (Nat.le_refl _),Nat.sub_self];rfl
   rw[List.getElem?_eq_getElem hlt]at h1
   simpa using h1
  have hne:=zjq hlt
  rw[hat]at hne
  by_cases hk:fok s x=true
  · have:=(zlt hlt).1 hk
    rw[hat]at this
    exact .inr ⟨e,r,rfl,hk,this,fun c hc=>by rw[← (zws this).1];exact (List.pairwise_cons.1 hpw).1 c hc⟩
  · have hxe:prec x e=true:=by
     cases hh:prec x e with
     | true=>rfl
     | false =>
      have:=zwu _ _ hne hh
      exact (hk ((zlt hlt).2 (by rw[hat];exact this))).elim
    refine .inl ⟨by simpa using hk,fun c hc=>?_⟩
    rcases List.mem_cons.1 hc with rfl|hc
    · exact hxe
    · exact zwv _ _ _ hxe ((List.pairwise_cons.1 hpw).1 c hc)
theorem zot {k:Int} {key:Bytes} {e:EntD} (h:prec e ⟨k,key,0⟩=true∨prec ⟨k,key,0⟩ e=true):isKey k key e=false:=by
 cases hh:isKey k key e with
 | false=>rfl
 | true =>
  have hk:=isKey_iff.1 hh
  rcases h with h|h
  · exact (zwt h hk).elim
  · exact (zwt h ⟨hk.1.symm,hk.2.symm⟩).elim
theorem getOf_eq {s:List EntD} (hs:adj s=true) (k:Int) (key:Bytes):getOf s k key=yf9 s k key:=by
 obtain⟨p,q,hpq,hl,hp,h⟩:=cut hs ⟨k,key,0⟩
 have hfp:p.find? (isKey k key)=none:=zkr fun e he=>zot (.inl (hp e he))
 unfold getOf yf9
 rcases h with ⟨hf,hq⟩|⟨e,r,rfl,hf,hk,hr⟩
 · have hfq:q.find? (isKey k key)=none:=zkr fun e he=>zot (.inr (hq e he))
   have:s.find? (isKey k key)=none:=by rw[hpq,List.find?_append,hfp,hfq];rfl
   simp[hf,this]
 · have h1:s.find? (isKey k key)=some e:=by
    rw[hpq,List.find?_append,hfp,List.find?_cons,isKey_iff.2 hk];rfl
   have h2:s[fidx s ⟨k,key,0⟩]? = some e:=by
    rw[← hl]
    conv=>lhs;lhs;rw[hpq]
    rw[List.getElem?_append_right (Nat.le_refl _),Nat.sub_self];rfl
   simp[hf,h1,h2]
theorem yij {s:List EntD} (hs:adj s=true) (k:Int) (key:Bytes) (id:Int):∃ p r,setOf s k key id=p++⟨k,key,id⟩::r∧(s=p++r∨∃ e,s=p++e::r∧e.kind=k∧e.key=key)∧(∀ e∈p,prec e ⟨k,key,0⟩=true)∧∀ e∈r,prec ⟨k,key,0⟩ e=true:=by
 obtain⟨p,q,hpq,hl,hp,h⟩:=cut hs ⟨k,key,0⟩
 have htake:s.take (fidx s ⟨k,key,0⟩)=p:=by
  rw[← hl,hpq];exact List.take_left
 have hdrop:s.drop (fidx s ⟨k,key,0⟩)=q:=by
  rw[← hl,hpq];exact List.drop_left
 unfold setOf
 rcases h with ⟨hf,hq⟩|⟨e,r,rfl,hf,hk,hr⟩
 · refine⟨p,q,?_,.inl hpq,hp,hq⟩
   rw[htake,hf];simp[hdrop]
 · refine⟨p,r,?_,.inr ⟨e,hpq,hk.1,hk.2⟩,hp,hr⟩
   rw[htake,hf,if_pos rfl,← List.drop_drop,hdrop];rfl
theorem adj_set {s:List EntD} (hs:adj s=true) (k:Int) (key:Bytes) (id:Int):adj (setOf s k key id)=true:=by
 obtain⟨p,r,he,hor,hp,hr⟩:=yij hs k key id
 rw[he,adj_pairwise,List.pairwise_append,List.pairwise_cons]
 have hx:∀ c:EntD,prec ⟨k,key,id⟩ c=prec ⟨k,key,0⟩ c∧prec c ⟨k,key,id⟩=prec c ⟨k,key,0⟩:=fun c=>zws ⟨rfl,rfl⟩
 have hsub:p.Pairwise (fun a b=>prec a b=true)∧r.Pairwise (fun a b=>prec a b=true):=by
  have h1:=adj_pairwise.1 hs
  rcases hor with h|⟨e,h,_⟩
  · rw[h,List.pairwise_append]at h1;exact⟨h1.1,h1.2.1⟩
  · rw[h,List.pairwise_append,List.pairwise_cons]at h1;exact⟨h1.1,h1.2.1.2⟩
 refine⟨hsub.1,⟨fun c hc=>by rw[(hx c).1];exact hr c hc,hsub.2⟩,fun a ha b hb=>?_⟩
 rcases List.mem_cons.1 hb with rfl|hb
 · rw[(hx a).2];exact hp a ha
 · exact zwv _ _ _ (hp a ha) (hr b hb)
theorem zm1 {s:List EntD} (hs:adj s=true) {e:EntD} (he:e∈s):getOf s e.kind e.key=some e.id:=by
 rw[getOf_eq hs]
 have hpw:=adj_pairwise.1 hs
 clear hs
 induction s with
 | nil=>cases he
 | cons a s ih =>
  rw[List.pairwise_cons]at hpw
  unfold yf9
  rcases List.mem_cons.1 he with rfl|he
  · rw[List.find?_cons,show isKey e.kind e.key e=true from isKey_iff.2 ⟨rfl,rfl⟩];rfl
  · have:isKey e.kind e.key a=false:=by
     cases hh:isKey e.kind e.key a with
     | false=>rfl
     | true=>exact (zwt (hpw.1 e he) (isKey_iff.1 hh)).elim
    rw[List.find?_cons,this]
    exact ih he hpw.2
theorem key_inj {s:List EntD} (hs:adj s=true) {a b:EntD} (ha:a∈s) (hb:b∈s) (hk:a.kind=b.kind∧a.key=b.key):a=b:=by
 have h1:=zm1 hs ha
 have h2:=zm1 hs hb
 rw[hk.1,hk.2,h2]at h1
 have:b.id=a.id:=by simpa using h1
 cases a;cases b;simp_all
end Go.Proofs.YthjmjdleecmaeaaGreat
