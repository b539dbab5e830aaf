/- Several texts of the proof in one: G4, G5, G6, Fx, G7, G8, M1. No condition. -/
import Derived.Test.YthjmjdleecmaeaaGreatL25
set_option linter.unusedSimpArgs false
set_option linter.unusedVariables false
set_option maxHeartbeats 4000000
set_option maxRecDepth 8000
namespace Go.Proofs.YthjmjdleecmaeaaGreat
open Go Go.Abs Go.Proofs.Tryz
def leE (a b:Evt):Bool:=decide (a.depth < b.depth)||(a.depth==b.depth&&decide (a.id≤b.id))
def insE (A:List Evt) (x:Evt):List Evt:=A.takeWhile (leE · x)++x::A.dropWhile (leE · x)
def zov (l:List Evt):List Evt:=l.foldl insE []
def zvc (l:List Evt):List Int:=(zov l).map (·.id)
theorem zoz {l:List Evt} {k:Nat} (h:k < l.length):zov (l.take (k+1))=insE (zov (l.take k)) l[k]:=by
 unfold zov;rw[List.take_succ_eq_append_getElem h,List.foldl_append];rfl
theorem zqc {a b c:Evt} (h1:leE a b=true) (h2:leE b c=true):leE a c=true:=by
 simp only[leE,Bool.or_eq_true,decide_eq_true_eq,Bool.and_eq_true,beq_iff_eq]at *
 omega
theorem zqb {a b:Evt} (h:leE a b=false):leE b a=true:=by
 simp only[leE,Bool.or_eq_true,decide_eq_true_eq,Bool.and_eq_true,beq_iff_eq,Bool.or_eq_false_iff,decide_eq_false_iff_not,Bool.and_eq_false_iff,beq_eq_false_iff_ne]at *
 omega
theorem zoi (A:List Evt) (x:Evt):(insE A x).Perm (A++[x]):=by
 unfold insE
 have h:(A.takeWhile (leE · x)++A.dropWhile (leE · x))=A:=List.takeWhile_append_dropWhile
 refine List.Perm.trans List.perm_middle ?_
 rw[h]
 exact (List.perm_append_singleton x A).symm
theorem zox (l:List Evt):(zov l).Perm l:=by
 have:∀ (l A:List Evt),(l.foldl insE A).Perm (A++l):=by
  intro l
  induction l with
  | nil=>intro A;simp
  | cons x l ih =>
   intro A
   refine (ih (insE A x)).trans ?_
   have:=(zoi A x).append_right l
   simpa using this
 have h:=this l []
 rw[List.nil_append]at h
 exact h
theorem zow (l:List Evt):(zov l).length=l.length:=(zox l).length_eq
theorem zoj {A:List Evt} {x:Evt} (h:A.Pairwise fun a b=>leE a b=true):(insE A x).Pairwise fun a b=>leE a b=true:=by
 induction A with
 | nil=>simp[insE]
 | cons a A ih =>
  rw[List.pairwise_cons]at h
  unfold insE
  by_cases g:leE a x=true
  · have e:insE (a::A) x=a::insE A x:=by simp[insE,List.takeWhile_cons,List.dropWhile_cons,g]
    have:=ih h.2
    show (insE (a::A) x).Pairwise _
    rw[e,List.pairwise_cons]
    refine⟨fun b hb=>?_,this⟩
    rcases List.mem_append.1 ((zoi A x).mem_iff.1 hb) with hb|hb
    · exact h.1 b hb
    · simp only[List.mem_singleton]at hb;subst hb;exact g
  · have g':leE a x=false:=by simpa using g
    have e:insE (a::A) x=x::a::A:=by simp[insE,List.takeWhile_cons,List.dropWhile_cons,g']
    show (insE (a::A) x).Pairwise _
    have hxa:=zqb g'
    rw[e,List.pairwise_cons,List.pairwise_cons]
    refine⟨fun b hb=>?_,h.1,h.2⟩
    rcases List.mem_cons.1 hb with rfl|hb
    · exact hxa
    · exact zqc hxa (h.1 b hb)
theorem zoy (l:List Evt):(zov l).Pairwise fun a b=>leE a b=true:=by
 have:∀ (l A:List Evt),A.Pairwise (fun a b=>leE a b=true)→(l.foldl insE A).Pairwise fun a b=>leE a b=true:=by
  intro l
  induction l with
  | nil=>intro A h;exact h
  | cons x l ih=>intro A h;exact ih _ (zoj h)
 exact this l [] List.Pairwise.nil
def mid (A:List Evt) (x:Evt) (k:Nat):List Evt:=A.take k++x::A.drop k
theorem zro {A:List Evt} {x:Evt} {k:Nat} (hk:k≤A.length):(mid A x k).length=A.length+1:=by
 simp only[mid,List.length_append,List.length_take,List.length_cons,List.length_drop];omega
theorem mid_full (A:List Evt) (x:Evt):mid A x A.length=A++[x]:=by simp[mid]
theorem mid_at {A:List Evt} {x:Evt} {k:Nat} (hk:k≤A.length):(mid A x k)[k]? = some x:=by
 unfold mid
 rw[List.getElem?_append_right (by simp;omega)]
 simp[Nat.min_eq_left hk]
theorem zrm {A:List Evt} {x:Evt} {k:Nat} (hk:k < A.length):(mid A x (k+1))[k]? = some A[k]:=by
 unfold mid
 rw[List.getElem?_append_left (by simp;omega),List.getElem?_take_of_lt (by omega),List.getElem?_eq_getElem hk]
theorem mid_swap {A:List Evt} {x:Evt} {k:Nat} (hk:k < A.length):((mid A x (k+1)).set k x).set (k+1) A[k]=mid A x k:=by
 apply List.ext_getElem?
 intro j
 rw[List.getElem?_set,List.getElem?_set]
 have hl:(mid A x (k+1)).length=A.length+1:=zro (by omega)
 simp only[List.length_set,hl]
 by_cases h1:k+1=j
 · subst h1
   have hx:(mid A x k)[k+1]? = some A[k]:=by
    unfold mid
    rw[List.getElem?_append_right (by simp;omega)]
    simp only[List.length_take,Nat.min_eq_left (Nat.le_of_lt hk),Nat.add_sub_cancel_left]
    rw[List.getElem?_cons_succ,List.drop_eq_getElem_cons hk]
    rfl
   rw[if_pos rfl,if_pos (by omega),hx]
 · rw[if_neg h1]
   by_cases h2:k=j
   · subst h2
     rw[if_pos rfl,if_pos (by omega),mid_at (by omega)]
   · rw[if_neg h2]
     unfold mid
     by_cases h3:j < k
     · rw[List.getElem?_append_left (by simp;omega),List.getElem?_append_left (by simp;omega),List.getElem?_take_of_lt (by omega),List.getElem?_take_of_lt (by omega)]
     · rw[List.getElem?_append_right (by simp;omega),List.getElem?_append_right (by simp;omega)]
       simp only[List.length_take,Nat.min_eq_left (show k+1≤A.length by omega),Nat.min_eq_left (Nat.le_of_lt hk)]
       obtain⟨i,rfl⟩:∃ i,j=k+2+i:=⟨j - (k+2),by omega⟩
       rw[show k+2+i - (k+1)=i+1 by omega,show k+2+i - k=(i+1)+1 by omega,List.getElem?_cons_succ,List.getElem?_cons_succ,List.getElem?_drop,List.getElem?_drop]
       congr 1;omega
theorem zrn {A:List Evt} {x:Evt} {k:Nat} (hs:A.Pairwise fun a b=>leE a b=true) (hk:k≤A.length) (hup:∀ a∈A.drop k,leE a x=false) (hlo:∀ (j:Nat) (h:j < A.length),j+1=k→leE A[j] x=true):mid A x k=insE A x:=by
 have hall:∀ a∈A.take k,leE a x=true:=by
  intro a ha
  obtain⟨j,hj,rfl⟩:=List.mem_take_iff_getElem.1 ha
  rcases Nat.lt_or_ge (j+1) k with h|h
  · have h2:=hlo (k - 1) (by omega) (by omega)
    have h1:=List.pairwise_iff_getElem.1 hs j (k - 1) (by omega) (by omega) (by omega)
    exact zqc h1 h2
  · exact hlo j (by omega) (by omega)
 unfold mid insE
 have ht:A.takeWhile (leE · x)=A.take k:=by
  conv=>lhs;rw[← List.take_append_drop k A]
  rw[List.takeWhile_append_of_pos (fun a ha=>hall a ha)]
  cases hd:A.drop k with
  | nil=>simp
  | cons b B =>
   have:=hup b (by rw[hd];exact List.mem_cons_self ..)
   simp[List.takeWhile_cons,this]
 have hdw:A.dropWhile (leE · x)=A.drop k:=by
  conv=>lhs;rw[← List.take_append_drop k A]
  rw[List.dropWhile_append_of_pos (fun a ha=>hall a ha)]
  cases hd:A.drop k with
  | nil=>simp
  | cons b B =>
   have:=hup b (by rw[hd];exact List.mem_cons_self ..)
   simp[List.dropWhile_cons,this]
 rw[ht,hdw]
def UpB (A:List Evt) (x:Evt) (k:Nat):Prop:=∀ a∈A.drop k,leE a x=false
theorem UpB.full (A:List Evt) (x:Evt):UpB A x A.length:=fun a ha=>by simp at ha
theorem UpB.step {A:List Evt} {x:Evt} {k:Nat} (hk:k < A.length) (h:UpB A x (k+1)) (hb:leE A[k] x=false):UpB A x k:=fun a ha=>by
 rw[List.drop_eq_getElem_cons hk]at ha
 rcases List.mem_cons.1 ha with rfl|ha
 · exact hb
 · exact h a ha
def fillz (S:List Evt) (k:Nat):List AV:=((S.take k).map fun e=>I e.id)++List.replicate (S.length - k) (I 0)
theorem zj6 (S:List Evt):List.replicate S.length (AV.v (.int .i64 0))=fillz S 0:=by simp[fillz,I]
theorem zj4 {S:List Evt} {k:Nat} (hk:k≤S.length):(fillz S k).length=S.length:=by simp[fillz];omega
theorem zj3 (S:List Evt):fillz S S.length=S.map fun e=>I e.id:=by simp[fillz]
theorem zj5 {S:List Evt} {k:Nat} (hk:k < S.length):(fillz S k).set k (.v (.int .i64 S[k].id))=fillz S (k+1):=by
 unfold fillz
 have hl:((S.take k).map fun e=>I e.id).length=k:=by simp;omega
 rw[List.set_append_right _ _ (by omega),hl,Nat.sub_self]
 obtain⟨n,hn⟩:∃ n,S.length - k=n+1:=⟨S.length - k - 1,by omega⟩
 rw[hn,List.replicate_succ,List.set_cons_zero,List.take_succ_eq_append_getElem hk,List.map_append,List.append_assoc,show S.length - (k+1)=n by omega]
 rfl
def plc (e:Evt):AV:=.agg [I e.depth,I e.id]
theorem order_ac (l:List Evt) (hsz:l.length≤1000):AC prog 31 [evs l] (ints (zvc l)):=by
 refine AC.ob func31 ntmps31 results31 (zzi (zyk _)) (zxe _) fun w S'=>AWp.of_vc [] ?_
 have hm:l.length≤maxLen:=by unfold maxLen;omega
 have hinj:∀ d d':Nat,d≠d'→d≠d':=fun _ _ h=>h
 simp[go_sem]
 refine⟨⟨by omega,by omega⟩,?_⟩
 refine AWp.loop_vc [] (fun m s=>∃ k v:Nat,k≤l.length∧m=l.length - k∧s.σ 0=evs l∧s.σ 15=I l.length∧s.σ 16=I k∧s.σ 3=.ref 13 v∧s.ver 13=v∧s.h 13=.arr 116 2 ((zov (l.take k)).map plc)) l.length ⟨0,1,by simp[go_sem,zov]⟩ ?_
 rintro m s ⟨k,v,hk,rfl,h0,h15,h16,h3,hv,hh⟩
 by_cases hlt:k < l.length
 · have hsu:=zoz hlt
   have hAl:(zov (l.take k)).length=k:=by rw[zow,List.length_take];omega
   have hAs:=zoy (l.take k)
   generalize zov (l.take k)=A at hh hsu hAl hAs
   generalize hx:l[k]=x at hsu
   have hx':l[k]? = some x:=by rw[List.getElem?_eq_getElem hlt,hx]
   simp[go_sem,h0,h15,h16,h3,hv,hh,hlt,hx']
   refine AWp.draw (n:=13) [] rfl (by kernel_rfl) ?_
   simp[go_sem,h0,h15,h16,h3,hv,hh,hlt,hx']
   refine⟨⟨by omega,by omega⟩,?_⟩
   have hAm:A.length≤maxLen:=by omega
   refine AWp.loop_vc [] (fun m s=>∃ q v:Nat,q≤A.length∧m=q∧s.σ 0=evs l∧s.σ 15=I l.length∧s.σ 16=I k∧s.σ 3=.ref 13 v∧s.ver 13=v∧s.h 13=.arr 116 2 ((mid A x q).map plc)∧s.σ 5=I q∧UpB A x q) A.length ⟨A.length,v+1,by simp[go_sem,h0,h15,h16,h3,hv,hh,yrm hAm,mid_full,UpB.full,plc,hx]⟩ ?_
   clear h0 h15 h16 h3 hv hh v
   rintro m s ⟨q,v,hq,hmq,h0,h15,h16,h3,hv,hh,h5,hup⟩
   cases q with
   | zero =>
    have hdone:mid A x 0=zov (l.take (k+1)):=by rw[hsu];exact zrn hAs (by omega) hup (fun j h hj=>by omega)
    rw[hdone]at hh
    simp[go_sem,h0,h15,h16,h3,hv,hh,h5,yro hlt hm]
    exact⟨l.length - (k+1),by omega,k+1,by omega,rfl,rfl,rfl⟩
   | succ p =>
    have hp:p < A.length:=by omega
    have hb:=zrm (x:=x) hp
    have hat:=mid_at (x:=x) hq
    have hml:=zro (x:=x) hq
    have hswap:=mid_swap (x:=x) hp
    have hdone:leE A[p] x=true→mid A x (p+1)=zov (l.take (k+1)):=fun hle=>by rw[hsu];exact zrn hAs hq hup (fun j h hj=>by have hjp:j=p:=(by omega);subst hjp;exact hle)
    have hstep:leE A[p] x=false→UpB A x p:=fun hle=>hup.step hp hle
    generalize hy:A[p]=y at hb hswap hdone hstep
    generalize mid A x (p+1)=L at hh hb hat hml hswap hdone
    have hpL:p < L.length:=by omega
    have hqL:p+1 < L.length:=by omega
    have hb':L[p]=y:=by rw[List.getElem?_eq_getElem hpL]at hb;exact Option.some.inj hb
    have hat':L[p+1]=x:=by rw[List.getElem?_eq_getElem hqL]at hat;exact Option.some.inj hat
    have hqLi:(p:Int)+1 < (L.length:Int):=by omega
    have hw:IntKind.i64.wrap (p:Int)=p:=yrm (by omega)
    have h5':s.σ 5=I ((p:Int)+1):=h5
    have hpos:(0:Int) < (p:Int)+1:=by omega
    have hpos2:(0:Int)≤(p:Int)+1:=by omega
    have htn:((p:Int)+1).toNat=p+1:=by omega
    by_cases c1:y.depth < x.depth
    · have hle:leE y x=true:=by simp[leE,c1]
      simp[go_sem,h0,h15,h16,h3,hv,hh,h5',hpos]
      refine AWp.drawText [] [6,7] [] [] rfl (by kernel_rfl) hinj ?_
      simp (maxSteps:=1000000) [go_sem,h0,h15,h16,h3,hv,hh,h5',hpos,hpos2,htn,hw,hpL,hqL,hqLi,hb',hat',plc,yro hlt hm,c1]
      exact⟨l.length - (k+1),by omega,k+1,by omega,rfl,rfl,by rw[hdone hle]⟩
    · by_cases c2:y.depth=x.depth
      · by_cases c3:y.id≤x.id
        · have hle:leE y x=true:=by simp[leE,c2,c3]
          simp[go_sem,h0,h15,h16,h3,hv,hh,h5',hpos]
          refine AWp.drawText [] [6,7] [] [] rfl (by kernel_rfl) hinj ?_
          simp (maxSteps:=1000000) [go_sem,h0,h15,h16,h3,hv,hh,h5',hpos,hpos2,htn,hw,hpL,hqL,hqLi,hb',hat',plc,yro hlt hm,c1,c2,c3]
          exact⟨l.length - (k+1),by omega,k+1,by omega,rfl,rfl,by rw[hdone hle]⟩
        · have hle:leE y x=false:=by simp[leE,c2,c3]
          have hup':=hstep hle
          simp[go_sem,h0,h15,h16,h3,hv,hh,h5',hpos]
          refine AWp.drawText [] [6,7] [] [] rfl (by kernel_rfl) hinj ?_
          simp (maxSteps:=1000000) [go_sem,h0,h15,h16,h3,hv,hh,h5',hpos,hpos2,htn,hw,hpL,hqL,hqLi,hb',hat',plc,c1,c2,c3]
          refine AWp.drawText [] [] [13] [] rfl (by kernel_rfl) hinj ?_
          simp (maxSteps:=1000000) [go_sem,h0,h15,h16,h3,hv,hh,h5',hpos,hpos2,htn,hw,hpL,hqL,hqLi,hb',hat',plc,c1,c2,c3]
          exact⟨p,by omega,p,by omega,rfl,by rw[← hswap];simp[plc,List.map_set,I,c2],rfl,hup'⟩
      · have hle:leE y x=false:=by simp[leE,c1,c2]
        have hup':=hstep hle
        simp[go_sem,h0,h15,h16,h3,hv,hh,h5',hpos]
        refine AWp.drawText [] [6,7] [] [] rfl (by kernel_rfl) hinj ?_
        simp (maxSteps:=1000000) [go_sem,h0,h15,h16,h3,hv,hh,h5',hpos,hpos2,htn,hw,hpL,hqL,hqLi,hb',hat',plc,c1,c2]
        refine AWp.drawText [] [] [13] [] rfl (by kernel_rfl) hinj ?_
        simp (maxSteps:=1000000) [go_sem,h0,h15,h16,h3,hv,hh,h5',hpos,hpos2,htn,hw,hpL,hqL,hqLi,hb',hat',plc,c1,c2]
        exact⟨p,by omega,p,by omega,rfl,by rw[← hswap];simp[plc,List.map_set,I],rfl,hup'⟩
 · rw[List.take_of_length_le (by omega)]at hh
   have hSl:=zow l
   have hres:zvc l=(zov l).map (·.id):=rfl
   generalize zov l=S at hh hSl hres
   have hSm:S.length≤maxLen:=by omega
   simp[go_sem,h0,h15,h16,h3,hv,hh,hlt]
   refine⟨⟨by omega,by omega⟩,?_⟩
   refine AWp.loop_vc [] (fun m s=>∃ k w:Nat,k≤S.length∧m=S.length - k∧s.σ 81=.ref 13 v∧s.σ 82=I S.length∧s.σ 83=I k∧s.ver 13=v∧s.h 13=.arr 116 2 (S.map plc)∧s.σ 8=.ref 80 w∧s.ver 80=w∧s.h 80=.arr 3 1 (fillz S k)) S.length ⟨0,s.ver 80+1,by simp[go_sem,h0,h15,h16,h3,hv,hh,zj6]⟩ ?_
   clear h0 h15 h16 h3 hv hh hlt hk k
   rintro m s ⟨k,u,hk,rfl,h81,h82,h83,hv,hh,h8,hu,hhu⟩
   by_cases hlt:k < S.length
   · have hfl:=zj4 (S:=S) hk
     have hfs:=zj5 hlt
     generalize fillz S k=F at hhu hfl hfs
     have hkF:k < F.length:=by omega
     simp[go_sem,h81,h82,h83,hv,hh,h8,hu,hhu,hlt,hkF,plc,yro hlt hSm]
     exact⟨S.length - (k+1),by omega,k+1,by omega,rfl,rfl,hfs⟩
   · obtain rfl:k=S.length:=(by omega)
     rw[zj3]at hhu
     simp[go_sem,h81,h82,h83,hv,hh,h8,hu,hhu]
     refine PostR.retW [80] ?_ (.refl _)
     simp[go_sem,h8,hu,hhu,hres]
end Go.Proofs.YthjmjdleecmaeaaGreat
namespace Go.Proofs.YthjmjdleecmaeaaGreat
open Go Go.Abs
theorem yji (a:List Int):(yjh a).length≤a.length:=by have:=zl3 a [];simpa [yjh] using this
def zru (l:List Evt) (ids:List Int):List Int:=yjh (ids.filter fun n=>!zpu l n)
theorem zkb {p:Int→Bool} {a:List Int} {q:Nat} (h:q < a.length) (X:List Int):X++(a.take (q+1)).filter p=(X++(a.take q).filter p)++if p a[q]=true then [a[q]] else []:=by
 rw[zkd p a q h,List.append_assoc]
def zpx (l:List Evt) (ids:List Int):List Int:=zrq ids (zru l ids)
theorem mem_knownOf {l:List Evt} {ids:List Int} {n:Int}:n∈zpx l ids↔n∈ids∧zpu l n=true:=by
 unfold zpx zrq zru hasI
 rw[List.mem_filter,(yjk _).2]
 constructor
 · rintro⟨h1,h2⟩
   refine⟨h1,?_⟩
   by_cases g:zpu l n=true
   · exact g
   · have:n∈yjh (ids.filter fun n=>!zpu l n):=by rw[(yjk _).2,List.mem_filter];exact⟨h1,by simpa using g⟩
     simp[this]at h2
 · rintro⟨h1,h2⟩
   refine⟨h1,?_⟩
   have:¬ n∈yjh (ids.filter fun n=>!zpu l n):=by rw[(yjk _).2,List.mem_filter,h2];simp
   simp[this]
theorem zpy (l:List Evt) (ids:List Int):(zpx l ids).Pairwise (· < ·):=by
 unfold zpx zrq;exact (yjk _).1.filter _
theorem yjp {l:List Evt} {a:List Int} (hs:a.Pairwise (· < ·)) (hk:∀ n∈a,zpu l n=true):a.length≤l.length:=by
 have:=zsp (a:=a) (b:=l.map (·.id)) (hs.imp fun h=>Int.ne_of_lt h) fun x hx=>zp0 (hk x hx)
 simpa using this
section
variable {l:List Evt} {b:Bool} {ids:List Int}
end
end Go.Proofs.YthjmjdleecmaeaaGreat
namespace Go.Abs
open Go Go.RowKit
theorem zsq {α:Type} [BEq α] [LawfulBEq α]:∀ {a b:List α},a.Nodup→(∀ x∈a,x∈b)→a.length≤b.length
 | [],b,_,_=>Nat.zero_le _
 | x::a,b,h,hs=>by
  rw[List.nodup_cons]at h
  have hx:=hs x (List.mem_cons_self ..)
  have ih:=zsq (a:=a) (b:=b.erase x) h.2 fun y hy=>(List.mem_erase_of_ne fun he=>h.1 (by rw[← he];exact hy)).2 (hs y (List.mem_cons_of_mem _ hy))
  rw[List.length_erase_of_mem hx]at ih
  have:0 < b.length:=List.length_pos_of_mem hx
  simp only[List.length_cons];omega
theorem zq5:mapOK #[] 0:=⟨fun x h=>by simp at h,List.nodup_nil⟩
theorem zrw (es:Array MapEntry) (j:Nat) (f:MapEntry→MapEntry):(es.modify j f).toList=es.toList.modify j f:=Array.toList_modify ..
theorem zq7 {α:Type} (g:MapEntry→α) (f:MapEntry→MapEntry):∀ (l:List MapEntry) (j:Nat),(∀ e,l[j]? = some e→g (f e)=g e)→(l.modify j f).map g=l.map g
 | [],j,_=>by cases j<;>simp
 | e::l,0,h=>by simp[h e rfl]
 | e::l,j+1,h=>by simp[zq7 g f l j (fun x hx=>h x (by simpa using hx))]
theorem zq4 {es:Array MapEntry} {clk:Nat} (h:mapOK es clk) (n:Int) (v:Value):mapOK (mput es clk n v).1 (mput es clk n v).2:=by
 unfold mput
 cases hf:findI n es.toList 0 with
 | some x =>
  have hb:(es.modify x.1 fun e=>{ e with key:=.int .i64 n,val:=v }).toList.map (·.born)=es.toList.map (·.born):=by
   rw[zrw]
   exact zq7 (·.born) _ _ _ fun e _=>rfl
  refine⟨fun y hy=>?_,by rw[hb];exact h.2⟩
  have:y.born∈es.toList.map (·.born):=by rw[← hb];exact List.mem_map.2 ⟨y,hy,rfl⟩
  obtain⟨z,hz,hzb⟩:=List.mem_map.1 this
  have:=h.1 z hz
  show y.born < clk
  omega
 | none =>
  refine⟨fun y hy=>?_,?_⟩
  · simp only[Array.toList_push,List.mem_append,List.mem_singleton]at hy
    rcases hy with hy|rfl
    · have:=h.1 y hy;show y.born < clk+1;omega
    · exact Nat.lt_succ_self _
  · simp only[Array.toList_push,List.map_append,List.map_cons,List.map_nil]
    rw[List.nodup_append]
    refine⟨h.2,by simp,fun a ha b hb=>?_⟩
    simp only[List.mem_singleton]at hb
    obtain⟨z,hz,rfl⟩:=List.mem_map.1 ha
    have:=h.1 z hz
    omega
def zpg (es:Array MapEntry):Prop:=(es.toList.map keyI).Nodup
theorem zpi:zpg #[]:=List.nodup_nil
theorem zo9 {e:MapEntry} (h:zo8 e=true):e.key=.int .i64 (keyI e):=by
 unfold zo8 at h
 split at h
 · rename_i a ha;unfold keyI;rw[ha]
 · cases h
theorem zpa {n:Int} {e:MapEntry} (h:zo8 e=true):keyIs n e=true↔keyI e=n:=by
 unfold keyIs
 rw[zo9 h]
 simp only[beq_iff_eq]
 exact eq_comm
theorem zph {es:Array MapEntry} {clk:Nat} (hi:intM es=true) (h:zpg es) (n:Int) (v:Value):zpg (mput es clk n v).1:=by
 unfold mput
 unfold intM at hi
 rw[List.all_eq_true]at hi
 cases hf:findI n es.toList 0 with
 | some x =>
  obtain⟨j,e,rfl,h1,h2,h3⟩:=zkk n _ _ _ hf
  unfold zpg
  show ((es.modify (0+j) fun e=>{ e with key:=.int .i64 n,val:=v }).toList.map keyI).Nodup
  rw[zrw,zq7 keyI _ _ _ fun e' he'=>?_]
  · exact h
  · rw[Nat.zero_add,h1]at he'
    cases he'
    have:=(zpa (hi e (List.mem_of_getElem? h1))).1 h2
    simp[keyI]at this ⊢
    exact this.symm
 | none =>
  have hno:=(zkj n _ 0).1 hf
  unfold zpg
  simp only[Array.toList_push,List.map_append,List.map_cons,List.map_nil]
  rw[List.nodup_append]
  refine⟨h,by simp,fun a ha b hb=>?_⟩
  simp only[List.mem_singleton]at hb
  obtain⟨z,hz,rfl⟩:=List.mem_map.1 ha
  have h1:=hno z hz
  intro he
  rw[hb]at he
  have:=(zpa (hi z hz)).2 (show keyI z=n from by simpa [keyI] using he)
  rw[this]at h1;cases h1
theorem zrl {es:Array MapEntry} (hi:intM es=true) (hk:zpg es) {e:MapEntry} (he:e∈es.toList):mget es (keyI e)=some e.val:=by
 unfold intM at hi
 rw[List.all_eq_true]at hi
 rw[zrj]
 have hp:keyIs (keyI e) e=true:=(zpa (hi e he)).2 rfl
 cases hf:es.toList.find? (keyIs (keyI e)) with
 | none =>
  rw[List.find?_eq_none]at hf
  exact absurd hp (hf e he)
 | some x =>
  have hx:=List.mem_of_find?_eq_some hf
  have hxk:=(zpa (hi x hx)).1 (List.find?_some hf)
  have:x=e:=by
   obtain⟨i,hi',rfl⟩:=List.mem_iff_getElem.1 hx
   obtain⟨j,hj,rfl⟩:=List.mem_iff_getElem.1 he
   have h1:(es.toList.map keyI)[i]'(by simpa using hi')=(es.toList.map keyI)[j]'(by simpa using hj):=by simpa using hxk
   have:=(List.getElem_inj hk).1 h1
   subst this;rfl
  subst this;rfl
theorem zrk {es:Array MapEntry} (hi:intM es=true) {n:Int} {v:Value} (h:mget es n=some v):∃ e∈es.toList,keyI e=n∧e.val=v:=by
 unfold intM at hi
 rw[List.all_eq_true]at hi
 rw[zrj]at h
 cases hf:es.toList.find? (keyIs n) with
 | none=>rw[hf]at h;cases h
 | some x =>
  rw[hf]at h
  have hx:=List.mem_of_find?_eq_some hf
  exact⟨x,hx,(zpa (hi x hx)).1 (List.find?_some hf),by simpa using h⟩
theorem zoo {es:Array MapEntry} (hi:intM es=true) {e:MapEntry} (he:e∈es.toList):e.key=.int .i64 (keyI e):=by
 unfold intM at hi
 rw[List.all_eq_true]at hi
 exact zo9 (hi e he)
structure Seen (es:Array MapEntry) (done:List MapEntry):Prop where
 nd:(done.map (·.born)).Nodup
 mem:∀ x∈done,x∈es.toList
theorem Seen.nil (es:Array MapEntry):Seen es []:=⟨List.nodup_nil,fun _ h=>by cases h⟩
theorem Seen.snoc {es:Array MapEntry} {done:List MapEntry} (h:Seen es done) {e:MapEntry} (he:e∈es.toList) (hn:e.born∉done.map (·.born)):Seen es (done++[e]):=by
 refine⟨?_,fun x hx=>?_⟩
 · rw[List.map_append,List.nodup_append]
   refine⟨h.nd,by simp,fun a ha b hb=>?_⟩
   simp only[List.map_cons,List.map_nil,List.mem_singleton]at hb
   subst hb;exact fun he=>hn (he ▸ ha)
 · rcases List.mem_append.1 hx with hx|hx
   · exact h.mem x hx
   · simp only[List.mem_singleton]at hx;subst hx;exact he
theorem Seen.len {es:Array MapEntry} {done:List MapEntry} (h:Seen es done):done.length≤es.size:=by
 have:=zsq h.nd (b:=es.toList.map (·.born)) fun b hb=>by
  obtain⟨x,hx,rfl⟩:=List.mem_map.1 hb
  exact List.mem_map.2 ⟨x,h.mem x hx,rfl⟩
 simpa using this
theorem Seen.all {es:Array MapEntry} {clk:Nat} {done:List MapEntry} (hok:mapOK es clk) (h:Seen es done) (hall:∀ e∈es.toList,e.born∈done.map (·.born)):∀ e,e∈done↔e∈es.toList:=fun e=>by
 refine⟨h.mem e,fun he=>?_⟩
 obtain⟨x,hx,hxb⟩:=List.mem_map.1 (hall e he)
 have hxe:=h.mem x hx
 have:x=e:=by
  obtain⟨i,hi',rfl⟩:=List.mem_iff_getElem.1 hxe
  obtain⟨j,hj,rfl⟩:=List.mem_iff_getElem.1 he
  have h1:(es.toList.map (·.born))[i]'(by simpa using hi')=(es.toList.map (·.born))[j]'(by simpa using hj):=by simpa using hxb
  have:=(List.getElem_inj hok.2).1 h1
  subst this;rfl
 subst this;exact hx
theorem Seen.keys {es:Array MapEntry} {done:List MapEntry} (h:Seen es done) (hk:zpg es):(done.map keyI).Nodup:=by
 have hb:=h.nd
 unfold List.Nodup at hb ⊢
 rw[List.pairwise_map]at hb ⊢
 refine List.Pairwise.imp_of_mem (fun {a b} ha hb' hab he=>hab ?_) hb
 obtain⟨i,hi',rfl⟩:=List.mem_iff_getElem.1 (h.mem a ha)
 obtain⟨j,hj,rfl⟩:=List.mem_iff_getElem.1 (h.mem b hb')
 have h1:(es.toList.map keyI)[i]'(by simpa using hi')=(es.toList.map keyI)[j]'(by simpa using hj):=by simpa using he
 have:=(List.getElem_inj hk).1 h1
 subst this;rfl
end Go.Abs
namespace Go.Proofs.YthjmjdleecmaeaaGreat
open Go Go.Abs Go.Proofs.Tryz
def zh5 (l:List Evt) (n:Int):Int:=((getE l n).getD evZ).depth
def zd6 (l:List Evt) (e:Evt):Bool:=e.auth.any fun n=>decide (e.depth≤zh5 l n)
def zrx (l:List Evt) (d:Int) (r:List Int):Int:=r.foldl (fun m n=>if m < zh5 l n then zh5 l n else m) d
theorem zry {l:List Evt} {d:Int} {r:List Int} {k:Nat} (h:k < r.length):zrx l d (r.take (k+1))=if zrx l d (r.take k) < zh5 l r[k] then zh5 l r[k] else zrx l d (r.take k):=by
 unfold zrx;rw[List.take_succ_eq_append_getElem h,List.foldl_append];rfl
def zr4 (l:List Evt) (e:Evt):Bool:=match e.prev with
 | []=>e.depth==1
 | n::r=>decide (zrx l (zh5 l n) (n::r) < e.depth)&&(IntKind.i64.wrap (e.depth - zrx l (zh5 l n) (n::r))==1)
def deepP (l:List Evt) (e:Evt):Bool:=!zd6 l e&&zr4 l e
theorem zn8 {l:List Evt} {n:Int} (h:zpu l n=true):∃ j,∃ hj:j < l.length,mget (idxM l) n=some (.int .i64 j)∧zh5 l n=l[j].depth:=by
 rcases zn7 l n with ⟨h1,_⟩|⟨j,hj,h1,h2⟩
 · unfold zpu at h;rw[h1]at h;cases h
 · exact⟨j,hj,h2,by unfold zh5;rw[h1];rfl⟩
theorem zd7 {l:List Evt} {e:Evt} {k:Nat} (h:k < e.auth.length) (hb:e.depth≤zh5 l e.auth[k]):zd6 l e=true:=List.any_eq_true.2 ⟨e.auth[k],List.getElem_mem h,by simpa using hb⟩
theorem zd8 {l:List Evt} {e:Evt} {k:Nat} (h:¬ k < e.auth.length) (hu:AllUp (fun n=>decide (zh5 l n < e.depth)) e.auth k):zd6 l e=false:=by
 have:=hu.full h
 rw[List.all_eq_true]at this
 exact List.any_eq_false.2 fun n hn=>by have:=this n hn;simp at this;simp;omega
theorem deep_ac (l:List Evt) (e:Evt) (hl:Fit l) (he:e∈l) (hkp:zb9 l e.prev=true) (hka:zb9 l e.auth=true):AC prog 58 [evs l,idxAV l,ev e] (B (deepP l e)):=by
 refine AC.ob func58 ntmps58 results58 (zzk (zyk _) (zyo _) (zyh _)) (zx0 _) fun w S'=>AWp.of_vc [] ?_
 have hp40:=hl.prev e he
 have ha40:=hl.auth e he
 have hpm:e.prev.length≤maxLen:=by unfold maxLen;omega
 have ham:e.auth.length≤maxLen:=by unfold maxLen;omega
 unfold zb9 at hkp hka
 rw[List.all_eq_true]at hkp hka
 simp[go_sem]
 refine AWp.loop_vc [] (fun m s=>∃ k:Nat,k≤e.auth.length∧m=e.auth.length - k∧s.σ 0=evs l∧s.σ 1=idxAV l∧s.σ 5=.eptr (evc e) 0∧s.σ 13=ints e.auth∧s.σ 14=I e.auth.length∧s.σ 15=I k∧AllUp (fun n=>decide (zh5 l n < e.depth)) e.auth k) e.auth.length ⟨0,by simp[go_sem,AllUp.zero]⟩ ?_
 rintro m s ⟨k,hk,rfl,h0,h1,h5,h13,h14,h15,hup⟩
 by_cases hlt:k < e.auth.length
 · obtain⟨j,hj,hm,hd⟩:=zn8 (hka _ (List.getElem_mem hlt))
   simp[go_sem,h0,h1,h5,h13,h14,h15,hlt]
   refine da ?_
   by_cases hc:e.depth≤l[j].depth
   · have hb:deepP l e=false:=by unfold deepP;rw[zd7 hlt (by omega)];rfl
     simp[go_sem,h0,h1,h5,h13,h14,h15,hlt,hm,hj,hc]
     refine PostR.ret ?_
     simp[go_sem,hb]
   · simp[go_sem,h0,h1,h5,h13,h14,h15,hlt,hm,hj,hc,yro hlt ham]
     exact⟨e.auth.length - (k+1),by omega,k+1,by omega,rfl,rfl,hup.succ hlt (by simp;omega)⟩
 · have hab:=zd8 hlt hup
   have hdp:deepP l e=zr4 l e:=by unfold deepP;rw[hab];rfl
   cases hP:e.prev with
   | nil =>
    have hdp2:deepP l e=(e.depth==1):=by rw[hdp];unfold zr4;rw[hP]
    simp[go_sem,h0,h1,h5,h13,h14,h15,hlt,hP]
    refine PostR.ret ?_
    simp[go_sem,hdp2]
   | cons n0 r =>
    have hdp2:deepP l e=(decide (zrx l (zh5 l n0) (n0::r) < e.depth)&&(IntKind.i64.wrap (e.depth - zrx l (zh5 l n0) (n0::r))==1)):=by rw[hdp];unfold zr4;rw[hP]
    rw[hP]at hkp hp40 hpm
    obtain⟨j,hj,hm,hd⟩:=zn8 (hkp n0 (List.mem_cons_self ..))
    have hne:¬ ((r.length:Int)+1=0):=by omega
    have hpos:(0:Int) < (r.length:Int)+1:=by omega
    simp[go_sem,h0,h1,h5,h13,h14,h15,hlt,hP,hne,hpos,hm,hj]
    rw[← hd]
    generalize zh5 l n0=d0 at hdp2
    have hPP:n0::r=n0::r:=rfl
    refine AWp.loop_vc [] (fun m s=>∃ k:Nat,k≤(n0::r).length∧m=(n0::r).length - k∧s.σ 0=evs l∧s.σ 1=idxAV l∧s.σ 5=.eptr (evc e) 0∧s.σ 48=ints (n0::r)∧s.σ 49=I (n0::r).length∧s.σ 50=I k∧s.σ 9=I (zrx l d0 ((n0::r).take k))) (n0::r).length ⟨0,by simp[go_sem,h0,h1,h5,zrx]⟩ ?_
    clear h0 h1 h5 h13 h14 h15 hlt hk hup k hne hpos hm hj hd j hPP
    generalize n0::r=P at hP hkp hp40 hpm hdp2
    rintro m s ⟨k,hk,rfl,h0,h1,h5,h48,h49,h50,h9⟩
    by_cases hlt:k < P.length
    · obtain⟨j,hj,hm,hd⟩:=zn8 (hkp _ (List.getElem_mem hlt))
      have hsu:=zry (l:=l) (d:=d0) hlt
      rw[hd]at hsu
      generalize zrx l d0 (P.take k)=M at h9 hsu
      simp[go_sem,h0,h1,h5,h48,h49,h50,h9,hlt,hm,hj,yro hlt hpm]
      exact⟨P.length - (k+1),by omega,k+1,by omega,rfl,rfl,by rw[hsu]⟩
    · rw[List.take_of_length_le (by omega)]at h9
      generalize zrx l d0 P=M at h9 hdp2
      by_cases hc:M < e.depth
      · simp[go_sem,h0,h1,h5,h48,h49,h50,h9,hlt,hc]
        refine PostR.ret ?_
        simp[go_sem,hdp2,hc]
      · simp[go_sem,h0,h1,h5,h48,h49,h50,h9,hlt,hc]
        refine PostR.ret ?_
        simp[go_sem,hdp2,hc]
def zh9 (l:List Evt):Int:=if zgu l=true then (if l.all (deepP l)=true then 0 else 15) else 14
theorem zgw {l:List Evt} (h:zgu l=true):∀ e∈l,zb9 l e.prev=true∧zb9 l e.auth=true:=fun e he=>by
 unfold zgu at h
 rw[List.all_eq_true]at h
 simpa using h e he
theorem zia (l:List Evt) (hl:Fit l):AC prog 30 [evs l] (I (zh9 l)):=by
 refine AC.ob func30 ntmps30 results30 (zzi (zyk _)) (zx1 _) fun w S'=>AWp.of_vc [] ?_
 have hll:=hl.len
 have hm:l.length≤maxLen:=by unfold maxLen;omega
 simp[go_sem]
 refine cpu (zgv l) ?_
 cases hc:zgu l with
 | false =>
  have hr:zh9 l=14:=by unfold zh9;rw[hc];rfl
  simp[go_sem]
  refine PostR.ret ?_
  simp[go_sem,hr]
 | true =>
  have hk:=zgw hc
  simp[go_sem]
  refine cpu (zoh l) ?_
  simp[go_sem]
  refine AWp.loop_vc [] (fun m s=>∃ k:Nat,k≤l.length∧m=l.length - k∧s.σ 0=evs l∧s.σ 3=idxAV l∧s.σ 11=I l.length∧s.σ 12=I k∧AllUp (deepP l) l k) l.length ⟨0,by simp[go_sem,AllUp.zero]⟩ ?_
  rintro m s ⟨k,hk',rfl,h0,h3,h11,h12,hup⟩
  by_cases hlt:k < l.length
  · have hke:=hk l[k] (List.getElem_mem hlt)
    simp[go_sem,h0,h3,h11,h12,hlt]
    refine cpu (deep_ac l l[k] hl (List.getElem_mem hlt) hke.1 hke.2) ?_
    cases hd:deepP l l[k] with
    | false =>
     have hr:zh9 l=15:=by unfold zh9;rw[hc,zcd hlt hd];rfl
     simp[go_sem,h0,h3,h11,h12,hlt]
     refine PostR.ret ?_
     simp[go_sem,hr]
    | true =>
     simp[go_sem,h0,h3,h11,h12,hlt,yro hlt hm]
     exact⟨l.length - (k+1),by omega,k+1,by omega,rfl,rfl,hup.succ hlt hd⟩
  · have hr:zh9 l=0:=by unfold zh9;rw[hc,hup.full hlt];rfl
    simp[go_sem,h0,h3,h11,h12,hlt]
    refine PostR.ret ?_
    simp[go_sem,hr]
end Go.Proofs.YthjmjdleecmaeaaGreat
namespace Go.Proofs.YthjmjdleecmaeaaGreat
open Go Go.Abs
end Go.Proofs.YthjmjdleecmaeaaGreat
namespace Go.Proofs.YthjmjdleecmaeaaGreat
open Go Go.Abs Go.Proofs.Tryz
def isPow (o:Option Evt):Bool :=
 match o with
 | none=>false
 | some x=>decide (x.kind=3)
def powT (l:List Evt) (id:Int):Bool:=isPow (getE l id)
def powE (l:List Evt) (e:Evt):Option Int:=e.auth.find? (powT l)
def optI (o:Option Int):AV:=.tup [I (o.getD 0),B o.isSome]
theorem zxl (o:Option Int):PureR (optI o):=by
 intro r hr
 simp only[List.mem_cons,List.not_mem_nil,or_false]at hr
 rcases hr with rfl|rfl
 · exact zx1 _
 · exact zx0 _
attribute [go_sem] optI
theorem zku {α:Type} {l:List α} {p:α→Bool} {j:Nat} (hj:j < l.length) (hno:∀ (i:Nat) x,i < j→l[i]? = some x→p x=false) (hp:p l[j]=true):l.find? p=some l[j] :=
 List.find?_eq_some_iff_getElem.2 ⟨hp,j,hj,rfl,fun i hi=>by simp[hno i _ hi (List.getElem?_eq_getElem (by omega))]⟩
theorem zkq {α:Type} {l:List α} {p:α→Bool} (hno:∀ (i:Nat) x,i < l.length→l[i]? = some x→p x=false):l.find? p=none:=by
 refine List.find?_eq_none.2 fun x hx=>?_
 obtain⟨i,hi,rfl⟩:=List.mem_iff_getElem.1 hx
 simp[hno i _ hi (List.getElem?_eq_getElem hi)]
theorem pow_ac (l:List Evt) (e:Evt) (hsz:e.auth.length≤100000):AC prog 252 [evs l,ev e] (optI (powE l e)):=by
 refine AC.ob func252 ntmps252 results252 (zzj (zyk _) (zyh _)) (zxl _) fun w S'=>AWp.of_vc [] ?_
 have hm:e.auth.length≤maxLen:=by unfold maxLen;omega
 unfold powE
 simp[go_sem]
 refine AWp.loop_vc [] (fun m s=>∃ q:Nat,q≤e.auth.length∧m=e.auth.length - q∧s.σ 0=evs l∧s.σ 11=ints e.auth∧s.σ 12=I e.auth.length∧s.σ 13=I q∧∀ (j:Nat) x,j < q→e.auth[j]? = some x→powT l x=false) e.auth.length ⟨0,by simp[go_sem]⟩ ?_
 rintro m s ⟨q,hq,rfl,h0,h3,h5,h6,hno⟩
 by_cases hlt:q < e.auth.length
 · simp[go_sem,h0,h3,h5,h6,hlt]
   refine cpu (yi1 l e.auth[q]) ?_
   cases hg:getE l e.auth[q] with
   | none =>
    have hp:powT l e.auth[q]=false:=by unfold powT;rw[hg];rfl
    simp[go_sem,h0,h3,h5,h6,hlt,yro hlt hm]
    exact⟨e.auth.length - (q+1),by omega,q+1,by omega,rfl,rfl,zes hlt hno hp⟩
   | some x =>
    by_cases hk:x.kind=3
    · have hp:powT l e.auth[q]=true:=by unfold powT;rw[hg];exact decide_eq_true hk
      simp[go_sem,h0,h3,h5,h6,hlt,hk]
      refine PostR.ret ?_
      rw[zku hlt hno hp]
      simp[go_sem,optI]
    · have hp:powT l e.auth[q]=false:=by unfold powT;rw[hg];exact decide_eq_false hk
      simp[go_sem,h0,h3,h5,h6,hlt,hk,yro hlt hm]
      exact⟨e.auth.length - (q+1),by omega,q+1,by omega,rfl,rfl,zes hlt hno hp⟩
 · simp[go_sem,h0,h3,h5,h6,hlt]
   refine PostR.ret ?_
   rw[zkq fun i x hi hx=>hno i x (by omega) hx]
   simp[go_sem,optI]
def hasJ (l:List Int) (n:Int):Bool:=l.contains n
def wayF (l:List Evt):Nat→List Int→Int→List Int
 | 0,_,_=>[]
 | n+1,seen,id =>
  if hasJ seen id=true then [] else
  match getE l id with
  | none=>[]
  | some e =>
   match powE l e with
   | none=>[id]
   | some nx=>id::wayF l n (seen++[id]) nx
def wayOf (l:List Evt) (id:Int):List Int:=wayF l l.length [] id
def Few (l:List Evt):Prop:=∀ e∈l,e.auth.length≤100000
theorem few_get {l:List Evt} (h:Few l) {id:Int} {e:Evt} (hg:getE l id=some e):e.auth.length≤100000:=h e (List.mem_of_find?_eq_some hg)
theorem yq8 (l:List Evt):∀ (n:Nat) (seen:List Int) (id:Int),(wayF l n seen id).length≤n
 | 0,_,_=>Nat.le_refl _
 | n+1,seen,id=>by
  unfold wayF
  split
  · simp
  split
  · simp
  split
  · simp
  · have:=yq8 l n (seen++[id]) (by assumption)
    rw[List.length_cons];omega
theorem zhf (l:List Int) (a b:Int):(l++[a]).contains b=(l.contains b||b==a):=by
 simp only[List.contains_eq_mem,List.mem_append,List.mem_singleton,Bool.decide_or];rfl
end Go.Proofs.YthjmjdleecmaeaaGreat
