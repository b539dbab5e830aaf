/- Several texts of the proof in one: H4, H5, H6, H7, H8, B26. No condition. -/
import Derived.Test.YthjmjdleecmaeaaGreatL34
import Derived.Test.YthjmjdleecmaeaaGreatL33
import Derived.Test.YthjmjdleecmaeaaGreatL28
set_option linter.unusedSimpArgs false
set_option linter.unusedVariables false
set_option maxHeartbeats 4000000
set_option maxRecDepth 8000
namespace Go.Proofs.YthjmjdleecmaeaaGreat
open Go Go.Abs Go.Proofs.Tryz
def tmN (l:List Evt) (n:Int):Int:=((getE l n).getD evZ).time
def lvN (l:List Evt) (n:Int):Int:=yh2 l ((getE l n).getD evZ)
noncomputable def nd (l:List Evt) (n:Int):AV:=.agg [I n,I (lvN l n),I (tmN l n),ints (zf9 l [n])]
theorem pure_nd (l:List Evt) (ns:List Int):Pure (.lst 4 (ns.map (nd l))):=zyw fun x hx c hc=>by
 obtain⟨n,_,rfl⟩:=List.mem_map.1 hx
 simp only[nd,AV.cells,List.mem_cons,List.not_mem_nil,or_false]at hc
 rcases hc with rfl|rfl|rfl|rfl
 · exact zx1 _
 · exact zx1 _
 · exact zx1 _
 · exact zyr _
theorem zpz (l:List Evt) (ids:List Int):(yjl ids).filter (zpu l)=zpx l ids:=by
 refine yk0 ((yjo _).1.filter _) (zpy l ids) fun n=>?_
 rw[mem_knownOf,List.mem_filter,(yjo _).2]
theorem yjn (l:List Int):(yjl l).length≤l.length:=by
 obtain⟨h1,h2⟩:=yjo l
 exact zsp (h1.imp fun h=>Int.ne_of_lt h) fun x hx=>(h2 x).1 hx
theorem nodes_ac (l:List Evt) (ids:List Int) (hl:Fit l) (hM:∀ e∈l,Mod e) (hsz:ids.length≤1000):AC prog 300 [evs l,ints ids] (.lst 4 ((zpx l ids).map (nd l))):=by
 refine AC.ob func300 ntmps300 results300 (zzj (zyk _) (zyr _)) (pure_nd _ _) fun w S'=>AWp.of_vc [] ?_
 rw[← zpz]
 simp[go_sem]
 refine cpu (zsw ids (by omega)) ?_
 have hSl:=yjn ids
 generalize yjl ids=Z at hSl ⊢
 have hm:Z.length≤maxLen:=by unfold maxLen;omega
 simp[go_sem]
 refine AWp.ownNil 5 334 4 (by simp[go_sem]) ?_
 refine AWp.loop_vc [] (fun m s=>∃ (k v:Nat),m=Z.length - k∧k≤Z.length∧s.σ 0=evs l∧s.σ 5=.ref 5 v∧s.σ 11=ints Z∧s.σ 12=I Z.length∧s.σ 13=I k∧s.ver 5=v∧s.h 5=.arr 334 4 (((Z.take k).filter (zpu l)).map (nd l))) Z.length ⟨0,1,by simp[go_sem]⟩ ?_
 rintro m s ⟨k,v,rfl,hk,h0,h5,h11,h12,h13,hv,hh⟩
 by_cases hlt:k < Z.length
 · have hsu:=zkd (zpu l) Z k hlt
   have hfl:((Z.take k).filter (zpu l)).length≤k:=by
    have:=List.length_filter_le (zpu l) (Z.take k)
    rw[List.length_take]at this;omega
   generalize (Z.take k).filter (zpu l)=X at hh hsu hfl
   simp[go_sem,h0,h5,h11,h12,h13,hv,hh,hlt]
   refine cpu (yi1 l Z[k]) ?_
   cases hg:getE l Z[k] with
   | none =>
    have hkn:zpu l Z[k]=false:=by unfold zpu;rw[hg];rfl
    rw[hkn]at hsu
    simp[go_sem,h0,h5,h11,h12,h13,hv,hh,hlt,yro hlt hm]
    exact⟨Z.length - (k+1),by omega,k+1,rfl,by omega,rfl,by rw[hsu];simp⟩
   | some e =>
    have hkn:zpu l Z[k]=true:=by unfold zpu;rw[hg];rfl
    have hel:=List.mem_of_find?_eq_some hg
    have hnd:nd l Z[k]=.agg [I Z[k],I (yh2 l e),I e.time,ints (zf9 l [Z[k]])]:=by unfold nd lvN tmN;rw[hg];rfl
    rw[hkn]at hsu
    simp[go_sem,h0,h5,h11,h12,h13,hv,hh,hlt]
    refine AWp.draw (n:=13) [] rfl (by kernel_rfl) ?_
    simp[go_sem,h0,h5,h11,h12,h13,hv,hh,hlt]
    refine CalmThen.pure (yh3 l e hM (hl.auth e hel)) rfl ?_
    simp[go_sem,h0,h5,h11,h12,h13,hv,hh,hlt]
    refine CalmThen.pure (zga l [Z[k]] hl (by simp)) rfl ?_
    generalize zf9 l [Z[k]]=C at hnd ⊢
    simp[go_sem,h0,h5,h11,h12,h13,hv,hh,hlt,yro hlt hm]
    exact⟨⟨by omega,by omega⟩,Z.length - (k+1),by omega,k+1,rfl,by omega,rfl,by rw[hsu];simp[hnd,I,ints]⟩
 · rw[List.take_of_length_le (by omega)]at hh
   simp[go_sem,h0,h5,h11,h12,h13,hv,hh,hlt]
   refine PostR.retW [5] ?_ (.refl _)
   simp[go_sem,h0,h5,h11,h12,h13,hv,hh,hlt]
def ahN (l:List Evt) (a b:Int):Bool:=if lvN l a=lvN l b then decide (tmN l a < tmN l b) else decide (lvN l b < lvN l a)
theorem zy4 (l:List Evt) (n:Int):Pure (nd l n):=zx3 fun c hc=>by
 simp only[List.mem_cons,List.not_mem_nil,or_false]at hc
 rcases hc with rfl|rfl|rfl|rfl
 · exact zx1 _
 · exact zx1 _
 · exact zx1 _
 · exact zyr _
theorem zbz (l:List Evt) (a b:Int):AC prog 301 [nd l a,nd l b] (B (ahN l a b)):=by
 refine AC.ob func301 ntmps301 results301 (zzj (zy4 _ _) (zy4 _ _)) (zx0 _) fun w S'=>AWp.of_vc [] ?_
 unfold nd ahN
 by_cases c:lvN l a=lvN l b
 · simp[go_sem,c]
   exact rets
 · simp[go_sem,c]
   refine PostR.ret ?_
   simp[go_sem,c]
noncomputable def freeN (l:List Evt) (L:List Int) (n:Int):Bool:=L.all fun y=>!zna (zf9 l [n]) y
def prN (l:List Evt) (a b:Int):Bool:=ahN l a b||(!ahN l b a&&decide (a < b))
theorem ahN_asym {l:List Evt} {a b:Int} (h:ahN l a b=true):ahN l b a=false:=by
 unfold ahN at *
 by_cases c:lvN l a=lvN l b
 · simp[c]at h ⊢;omega
 · have c':¬ lvN l b=lvN l a:=fun h=>c h.symm
   simp[c,c']at h ⊢;omega
theorem prN_asym {l:List Evt} {a b:Int} (h:prN l a b=true):prN l b a=false:=by
 unfold prN at *
 cases h1:ahN l a b with
 | true=>rw[ahN_asym h1];simp
 | false =>
  rw[h1]at h
  simp at h
  simp[h.1];omega
theorem zwn {l:List Evt} {a b c:Int} (h1:prN l a b=true) (h2:prN l b c=true):prN l a c=true:=by
 have e:∀ {x y:Int},prN l x y=true↔lvN l y < lvN l x∨(lvN l x=lvN l y∧(tmN l x < tmN l y∨(tmN l x=tmN l y∧x < y))):=fun {x y}=>by
  unfold prN ahN
  by_cases c:lvN l x=lvN l y
  · simp[c];omega
  · have c':¬ lvN l y=lvN l x:=fun h=>c h.symm
    simp[c,c'];omega
 rw[e]at *;omega
noncomputable def nextN (l:List Evt) (L:List Int):Option Int:=L.find? fun n=>freeN l L n&&L.all fun m=>!freeN l L m||(m==n||prN l n m)
theorem zsc {l:List Evt} {L:List Int} {n:Int} (h:nextN l L=some n):n∈L:=List.mem_of_find?_eq_some h
theorem zse {l:List Evt} {L:List Int} {n:Int}:nextN l L=some n↔n∈L∧freeN l L n=true∧∀ m∈L,freeN l L m=true→m=n∨prN l n m=true:=by
 constructor
 · intro h
   have h2:=List.find?_some h
   simp only[Bool.and_eq_true,List.all_eq_true,Bool.or_eq_true,Bool.not_eq_true',beq_iff_eq]at h2
   refine⟨zsc h,h2.1,fun m hm hf=>?_⟩
   rcases h2.2 m hm with h3|h3
   · rw[h3]at hf;cases hf
   · exact h3
 · rintro⟨h1,h2,h3⟩
   have hp:(freeN l L n&&L.all fun m=>!freeN l L m||(m==n||prN l n m))=true:=by
    simp only[Bool.and_eq_true,List.all_eq_true,Bool.or_eq_true,Bool.not_eq_true',beq_iff_eq]
    refine⟨h2,fun m hm=>?_⟩
    cases hf:freeN l L m with
    | false=>exact .inl rfl
    | true=>exact .inr (h3 m hm hf)
   cases hx:nextN l L with
   | none =>
    unfold nextN at hx
    rw[List.find?_eq_none]at hx
    exact absurd hp (hx n h1)
   | some x =>
    have hxm:=zsc hx
    have h4:=List.find?_some hx
    simp only[Bool.and_eq_true,List.all_eq_true,Bool.or_eq_true,Bool.not_eq_true',beq_iff_eq]at h4
    rcases h3 x hxm h4.1 with h5|h5
    · rw[h5]
    · rcases h4.2 n h1 with h6|h6|h6
      · rw[h2]at h6;cases h6
      · rw[h6]
      · rw[prN_asym h5]at h6;cases h6
theorem zsd {l:List Evt} {L:List Int} (h:∀ n∈L,freeN l L n=false):nextN l L=none:=by
 unfold nextN
 rw[List.find?_eq_none]
 intro n hn
 rw[h n hn];simp
noncomputable def ordL (l:List Evt) (L:List Int):List Int :=
 match h:nextN l L with
 | none=>[]
 | some n=>n::ordL l (L.erase n)
termination_by L.length
decreasing_by
 have hm:=zsc h
 have:=List.length_erase_of_mem hm
 have:=List.length_pos_of_mem hm
 omega
theorem zu6 {l:List Evt} {L:List Int} (h:nextN l L=none):ordL l L=[]:=by
 rw[ordL];split
 · rfl
 · rename_i n hn;rw[hn]at h;cases h
theorem zu7 {l:List Evt} {L:List Int} {n:Int} (h:nextN l L=some n):ordL l L=n::ordL l (L.erase n):=by
 rw[ordL];split
 · rename_i hn;rw[hn]at h;cases h
 · rename_i x hx;rw[hx]at h;cases h;rfl
theorem zu4 (l:List Evt):ordL l []=[]:=zu6 rfl
theorem zi4:∀ {L:List Int},L.Pairwise (· < ·)→∀ {b:Nat} (hb:b < L.length),L.erase L[b]=L.take b++L.drop (b+1)
 | [],_,b,hb=>by simp at hb
 | x::L,hs,0,_=>by simp
 | x::L,hs,b+1,hb=>by
  rw[List.pairwise_cons]at hs
  have hb':b < L.length:=by simpa using hb
  have hne:¬ x=L[b]:=Int.ne_of_lt (hs.1 _ (List.getElem_mem hb'))
  have ih:=zi4 hs.2 hb'
  rw[List.getElem_cons_succ,List.erase_cons,if_neg (by simpa using hne),ih]
  simp
def BestUp (l:List Evt) (L:List Int) (k:Nat) (b:Int):Prop:=(b=-1∧∀ i (h:i < L.length),i < k→freeN l L L[i]=false) ∨
 ∃ q,∃ hq:q < L.length,b=q∧q < k∧freeN l L L[q]=true∧∀ i (h:i < L.length),i < k→freeN l L L[i]=true→i=q∨prN l L[q] L[i]=true
theorem BestUp.zero (l:List Evt) (L:List Int):BestUp l L 0 (-1):=.inl ⟨rfl,fun _ _ h=>by omega⟩
theorem BestUp.rng {l:List Evt} {L:List Int} {k:Nat} {b:Int} (h:BestUp l L k b):b=-1∨∃ q:Nat,b=q∧q < L.length∧q < k:=by
 rcases h with ⟨h,_⟩|⟨q,hq,h,h2,_⟩
 · exact .inl h
 · exact .inr ⟨q,h,hq,h2⟩
theorem BestUp.skip {l:List Evt} {L:List Int} {k:Nat} {b:Int} (h:BestUp l L k b) (hk:k < L.length) (hf:freeN l L L[k]=false):BestUp l L (k+1) b:=by
 rcases h with ⟨h,h1⟩|⟨q,hq,h,h2,h3,h4⟩
 · refine .inl ⟨h,fun i hi hik=>?_⟩
   by_cases g:i=k
   · subst g;exact hf
   · exact h1 i hi (by omega)
 · refine .inr ⟨q,hq,h,by omega,h3,fun i hi hik hfi=>?_⟩
   by_cases g:i=k
   · subst g;rw[hf]at hfi;cases hfi
   · exact h4 i hi (by omega) hfi
theorem BestUp.first {l:List Evt} {L:List Int} {k:Nat} (h:BestUp l L k (-1)) (hk:k < L.length) (hf:freeN l L L[k]=true):BestUp l L (k+1) k:=by
 rcases h with ⟨_,h1⟩|⟨q,hq,h,_⟩
 · refine .inr ⟨k,hk,rfl,by omega,hf,fun i hi hik hfi=>?_⟩
   by_cases g:i=k
   · exact .inl g
   · rw[h1 i hi (by omega)]at hfi;cases hfi
 · omega
theorem BestUp.better {l:List Evt} {L:List Int} {k q:Nat} (h:BestUp l L k q) (hk:k < L.length) (hq:q < L.length) (hf:freeN l L L[k]=true) (ha:prN l L[k] L[q]=true):BestUp l L (k+1) k:=by
 rcases h with ⟨h,_⟩|⟨q',hq',h,h2,h3,h4⟩
 · omega
 · obtain rfl:q=q':=(by omega)
   refine .inr ⟨k,hk,rfl,by omega,hf,fun i hi hik hfi=>?_⟩
   by_cases g:i=k
   · exact .inl g
   · rcases h4 i hi (by omega) hfi with g2|g2
     · subst g2;exact .inr ha
     · exact .inr (zwn ha g2)
theorem BestUp.keep {l:List Evt} {L:List Int} {k q:Nat} (h:BestUp l L k q) (hk:k < L.length) (hq:q < L.length) (ha:prN l L[q] L[k]=true):BestUp l L (k+1) q:=by
 rcases h with ⟨h,_⟩|⟨q',hq',h,h2,h3,h4⟩
 · omega
 · obtain rfl:q=q':=(by omega)
   refine .inr ⟨q,hq,rfl,by omega,h3,fun i hi hik hfi=>?_⟩
   by_cases g:i=k
   · subst g;exact .inr ha
   · exact h4 i hi (by omega) hfi
theorem BestUp.none {l:List Evt} {L:List Int} {k:Nat} (h:BestUp l L k (-1)) (hk:¬ k < L.length):nextN l L=Option.none:=by
 rcases h with ⟨_,h1⟩|⟨q,hq,h,_⟩
 · refine zsd fun n hn=>?_
   obtain⟨i,hi,rfl⟩:=List.mem_iff_getElem.1 hn
   exact h1 i hi (by omega)
 · omega
theorem BestUp.some {l:List Evt} {L:List Int} {k q:Nat} (h:BestUp l L k q) (hk:¬ k < L.length) (hq:q < L.length):nextN l L=Option.some L[q]:=by
 rcases h with ⟨h,_⟩|⟨q',hq',h,h2,h3,h4⟩
 · omega
 · obtain rfl:q=q':=(by omega)
   rw[zse]
   refine⟨List.getElem_mem hq,h3,fun m hm hf=>?_⟩
   obtain⟨i,hi,rfl⟩:=List.mem_iff_getElem.1 hm
   rcases h4 i hi (by omega) hf with g|g
   · subst g;exact .inl rfl
   · exact .inr g
theorem pr_of_ah {l:List Evt} {a b:Int} (h:ahN l b a=false) (hab:a < b):prN l a b=true:=by
 unfold prN;simp[h,hab]
theorem zwo {l:List Evt} {a b:Int} (h:ahN l a b=true):prN l a b=true:=by
 unfold prN;simp[h]
theorem zwg (l:List Evt) (ids:List Int) (hl:Fit l) (hM:∀ e∈l,Mod e) (hsz:ids.length≤1000):AC prog 299 [evs l,ints ids] (ints (ordL l (zpx l ids))):=by
 refine AC.ob func299 ntmps299 results299 (zzj (zyk _) (zyr _)) (zxe _) fun w S'=>AWp.of_vc [] ?_
 simp[go_sem]
 refine cpu (nodes_ac l ids hl hM hsz) ?_
 have hKl:=yjp (zpy l ids) (fun n hn=>(mem_knownOf.1 hn).2)
 have hKs:=zpy l ids
 have hll:=hl.len
 generalize zpx l ids=K at hKl hKs ⊢
 simp[go_sem]
 refine AWp.ownNil 6 3 1 (by simp[go_sem]) ?_
 have hinit:([]:List Int)++ordL l K=ordL l K:=rfl
 refine AWp.loop_vcF [] [70] (fun m s=>∃ (L out:List Int) (v:Nat),m=L.length∧out++ordL l L=ordL l K∧L.Pairwise (· < ·)∧L.length≤14∧out.length+L.length≤14∧s.σ 5=.lst 4 (L.map (nd l))∧s.σ 6=.ref 6 v∧s.ver 6=v∧s.h 6=.arr 3 1 (out.map I)∧s.σ 7=.fn (.func 301) [] []) K.length ⟨K,[],1,by simp[go_sem,hKs];omega⟩ ?_
 rintro m s ⟨L,out,v,rfl,hO,hLs,hL14,hoL,h5,h6,hv6,hh6,h7⟩
 by_cases hL0:0 < L.length
 · have hLm:L.length≤maxLen:=by unfold maxLen;omega
   simp[go_sem,h5,h6,hv6,hh6,h7,hL0]
   refine AWp.scope_vc [] ?_
   simp[go_sem,h5,h6,hv6,hh6,h7,hL0]
   refine AWp.loop_vc [] (fun m s=>∃ (k:Nat) (b:Int),m=L.length - k∧k≤L.length∧BestUp l L k b∧s.σ 5=.lst 4 (L.map (nd l))∧s.σ 6=.ref 6 v∧s.ver 6=v∧s.h 6=.arr 3 1 (out.map I)∧s.σ 7=.fn (.func 301) [] []∧s.σ 8=I b∧s.σ 19=.lst 4 (L.map (nd l))∧s.σ 20=I L.length∧s.σ 21=I k) L.length ⟨0,-1,by simp[go_sem,h5,h6,hv6,hh6,h7,BestUp.zero]⟩ ?_
   clear h5 h6 hv6 hh6 h7
   rintro m s ⟨k,b,rfl,hk,hB,h5,h6,hv6,hh6,h7,h8,h19,h20,h21⟩
   by_cases hlt:k < L.length
   · simp[go_sem,h5,h6,hv6,hh6,h7,h8,h19,h20,h21,hlt,nd]
     have hfr:freeN l L L[k]=L.all fun y=>!zna (zf9 l [L[k]]) y:=rfl
     have hno:∀ q (hq:q < L.length),zna (zf9 l [L[k]]) L[q]=true→freeN l L L[k]=false:=fun q hq hb=>zcd hq (by rw[hb];rfl)
     have hndk:nd l L[k]=.agg [I L[k],I (lvN l L[k]),I (tmN l L[k]),ints (zf9 l [L[k]])]:=rfl
     generalize zf9 l [L[k]]=C at hfr hno hndk ⊢
     refine AWp.loop_vc [] (fun m s=>∃ (q u:Nat),m=L.length - q∧q≤L.length∧AllUp (fun y=>!zna C y) L q∧s.σ 5=.lst 4 (L.map (nd l))∧s.σ 6=.ref 6 v∧s.ver 6=v∧s.h 6=.arr 3 1 (out.map I)∧s.σ 7=.fn (.func 301) [] []∧s.σ 8=I b∧s.σ 19=.lst 4 (L.map (nd l))∧s.σ 20=I L.length∧s.σ 21=I k∧s.σ 9=I k∧s.σ 10=.rptr 10 u 0 0∧s.ver 10=u∧s.h 10=.box [I L[k],I (lvN l L[k]),I (tmN l L[k]),ints C]∧s.σ 26=.lst 4 (L.map (nd l))∧s.σ 27=I L.length∧s.σ 28=I q) L.length ⟨0,s.ver 10+1,by simp[go_sem,h5,h6,hv6,hh6,h7,h8,h19,h20,h21,AllUp.zero]⟩ ?_
     clear h5 h6 hv6 hh6 h7 h8 h19 h20 h21
     rintro m s ⟨q,u,rfl,hq,hup,h5,h6,hv6,hh6,h7,h8,h19,h20,h21,h9,h10,hv10,hh10,h26,h27,h28⟩
     by_cases hlq:q < L.length
     · simp[go_sem,h5,h6,hv6,hh6,h7,h8,h19,h20,h21,h9,h10,hv10,hh10,h26,h27,h28,hlq,nd]
       refine cpu (r:=B (zna C L[q])) (zsu C L[q]) ?_
       cases hc:zna C L[q] with
       | true =>
        simp[go_sem,h5,h6,hv6,hh6,h7,h8,h19,h20,h21,h9,h10,hv10,hh10,h26,h27,h28,hlq,yro hlt hLm]
        exact⟨L.length - (k+1),by omega,k+1,rfl,by omega,b,hB.skip hlt (hno q hlq hc),rfl,rfl⟩
       | false =>
        simp[go_sem,h5,h6,hv6,hh6,h7,h8,h19,h20,h21,h9,h10,hv10,hh10,h26,h27,h28,hlq,yro hlq hLm]
        exact⟨L.length - (q+1),by omega,q+1,rfl,by omega,hup.succ hlq (by rw[hc];rfl),rfl⟩
     · have hfree:freeN l L L[k]=true:=by rw[hfr];exact hup.full hlq
       simp[go_sem,h5,h6,hv6,hh6,h7,h8,h19,h20,h21,h9,h10,hv10,hh10,h26,h27,h28,hlq]
       refine da ?_
       rcases hB.rng with rfl|⟨g,rfl,hgl,hgk⟩
       · simp[go_sem,h5,h6,hv6,hh6,h7,h8,h19,h20,h21,h9,h10,hv10,hh10,h26,h27,h28,hlq,yro hlt hLm]
         exact⟨L.length - (k+1),by omega,k+1,rfl,by omega,k,hB.first hlt hfree,rfl,rfl⟩
       · have hg0:¬ (g:Int) < 0:=by omega
         have hgL:((g:Int)) < L.length:=by omega
         have hlt2:L[g] < L[k]:=List.pairwise_iff_getElem.1 hLs g k hgl hlt hgk
         have hac:=zbz l L[k] L[g]
         rw[hndk]at hac
         simp[go_sem,h5,h6,hv6,hh6,h7,h8,h19,h20,h21,h9,h10,hv10,hh10,h26,h27,h28,hlq,hg0,hgl,nd]
         refine CalmThen.pure hac rfl ?_
         cases ha:ahN l L[k] L[g] with
         | true =>
          simp[go_sem,h5,h6,hv6,hh6,h7,h8,h19,h20,h21,h9,h10,hv10,hh10,h26,h27,h28,hlq,hg0,hgl,yro hlt hLm]
          exact⟨L.length - (k+1),by omega,k+1,rfl,by omega,k,hB.better hlt hgl hfree (zwo ha),rfl,rfl⟩
         | false =>
          simp[go_sem,h5,h6,hv6,hh6,h7,h8,h19,h20,h21,h9,h10,hv10,hh10,h26,h27,h28,hlq,hg0,hgl,yro hlt hLm]
          exact⟨L.length - (k+1),by omega,k+1,rfl,by omega,g,hB.keep hlt hgl (pr_of_ah ha hlt2),rfl,rfl⟩
   · rcases hB.rng with rfl|⟨g,rfl,hgl,hgk⟩
     · have hnx:=hB.none hlt
       rw[zu6 hnx,List.append_nil]at hO
       simp[go_sem,h5,h6,hv6,hh6,h7,h8,h19,h20,h21,hlt]
       refine PostR.retW [6] ?_ (.refl _)
       simp[go_sem,h6,hv6,hh6,hO]
     · have hnx:=hB.some hlt hgl
       have hos:=zu7 hnx
       rw[zi4 hLs hgl]at hos
       have hg0:¬ (g:Int) < 0:=by omega
       simp[go_sem,h5,h6,hv6,hh6,h7,h8,h19,h20,h21,hlt,hg0,hgl,nd]
       refine⟨⟨by omega,by omega⟩,?_⟩
       refine AWp.draw (n:=8) [] rfl (by kernel_rfl) ?_
       have hgle:g≤L.length:=by omega
       have hgle1:g+1≤L.length:=by omega
       have hpos2:(0:Int)≤(g:Int)+1:=by omega
       have htn:((g:Int)+1).toNat=g+1:=by omega
       have hok:∀ st,okAll st (List.take (L.length - (g+1)) (List.drop (g+1) (List.map (nd l) L))):=fun st c hc=>by
        obtain⟨n,_,rfl⟩:=List.mem_map.1 (List.mem_of_mem_drop (List.mem_of_mem_take hc));rfl
       have hL's:(L.take g++L.drop (g+1)).Pairwise (· < ·):=by
        rw[← List.eraseIdx_eq_take_drop_succ];exact hLs.sublist (List.eraseIdx_sublist ..)
       have hL'l:(L.take g++L.drop (g+1)).length=L.length - 1:=by rw[List.length_append,List.length_take,List.length_drop];omega
       have hO':(out++[L[g]])++ordL l (L.take g++L.drop (g+1))=ordL l K:=by rw[← hO,hos];simp
       have htk:List.take (L.length - (g+1)) (List.drop (g+1) (List.map (nd l) L))=List.drop (g+1) (List.map (nd l) L):=List.take_of_length_le (by simp)
       simp[go_sem,h5,h6,hv6,hh6,h7,h8,h19,h20,h21,hlt,hg0,hgl,nd,hgle,hgle1,hpos2,htn,yro hgl hLm,hok]
       refine⟨⟨by omega,by omega⟩,fun hd=>?_,fun hd1 hd2=>?_⟩
       · have hdr:L.drop (g+1)=[]:=List.drop_eq_nil_of_le (by omega)
         rw[hdr,List.append_nil]at hL's hL'l hO'
         exact⟨L.length - 1,by omega,L.take g,hL'l.symm,out++[L[g]],hO',hL's,by omega,by rw[List.length_append,List.length_cons,List.length_nil];omega,by rw[List.map_take],by simp[I]⟩
       · exact⟨L.length - 1,by omega,L.take g++L.drop (g+1),hL'l.symm,out++[L[g]],hO',hL's,by omega,by rw[List.length_append,List.length_cons,List.length_nil];omega,by rw[htk,List.map_append,List.map_take,List.map_drop],by simp[I]⟩
 · have hL:L=[]:=List.eq_nil_of_length_eq_zero (by omega)
   subst hL
   rw[zu4,List.append_nil]at hO
   simp[go_sem,h5,h6,hv6,hh6,h7]
   refine PostR.retW [6] ?_ (.refl _)
   simp[go_sem,h6,hv6,hh6,hO]
end Go.Proofs.YthjmjdleecmaeaaGreat
namespace Go.Proofs.YthjmjdleecmaeaaGreat
open Go Go.Abs
end Go.Proofs.YthjmjdleecmaeaaGreat
namespace Go.Proofs.YthjmjdleecmaeaaGreat
open Go Go.Abs
theorem mem_pset {l:List Evt} {full:List Int} {n:Int}:n∈zwx l full↔n∈full∧(powN l n=true∨n∈zf9 l (full.filter (powN l))):=by
 unfold zwx
 rw[(yjo _).2,List.mem_append,List.mem_filter,List.mem_filter]
 unfold zna
 simp only[List.contains_eq_mem,decide_eq_true_eq]
 exact⟨fun h=>h.elim (fun h=>⟨h.1,.inl h.2⟩) (fun h=>⟨h.1,.inr h.2⟩),fun h=>h.2.elim (fun g=>.inl ⟨h.1,g⟩) (fun g=>.inr ⟨h.1,g⟩)⟩
theorem zwy (l:List Evt) (full:List Int):(zwx l full).Pairwise (· < ·):=(yjo _).1
theorem pset_len (l:List Evt) (full:List Int):(zwx l full).length≤full.length :=
 zsp ((zwy l full).imp fun h=>Int.ne_of_lt h) fun _ hx=>(mem_pset.1 hx).1
theorem ordL_sub {l:List Evt}:∀ (d:Nat) {L:List Int},L.length=d→∀ n∈ordL l L,n∈L:=by
 intro d
 induction d with
 | zero=>intro L h n hn;rw[List.eq_nil_of_length_eq_zero h,zu4]at hn;cases hn
 | succ d ih =>
  intro L h n hn
  cases hx:nextN l L with
  | none=>rw[zu6 hx]at hn;cases hn
  | some m =>
   have hm:=zsc hx
   rw[zu7 hx]at hn
   rcases List.mem_cons.1 hn with rfl|hn
   · exact hm
   · have:=ih (by have:=List.length_erase_of_mem hm;omega) n hn
     exact List.mem_of_mem_erase this
theorem zu3 {l:List Evt} {L:List Int} {n:Int} (h:n∈ordL l L):n∈L:=ordL_sub _ rfl n h
theorem ordL_ind {l:List Evt} {P:List Int→Prop} (h0:∀ L,nextN l L=none→P L) (h1:∀ L n,nextN l L=some n→P (L.erase n)→P L):∀ L,P L:=by
 have key:∀ (d:Nat) (L:List Int),L.length=d→P L:=by
  intro d
  induction d with
  | zero=>intro L h;refine h0 L ?_;rw[List.eq_nil_of_length_eq_zero h];rfl
  | succ d ih =>
   intro L h
   cases hx:nextN l L with
   | none=>exact h0 L hx
   | some m=>exact h1 L m hx (ih _ (by have:=List.length_erase_of_mem (zsc hx);omega))
 exact fun L=>key _ L rfl
theorem zu5 (l:List Evt) {L:List Int} (hL:L.Nodup):(ordL l L).Nodup:=by
 refine ordL_ind (l:=l) (P:=fun L=>L.Nodup→(ordL l L).Nodup) (fun L h _=>?_) (fun L n h ih hL=>?_) L hL
 · rw[zu6 h];exact .nil
 · rw[zu7 h,List.nodup_cons]
   exact⟨fun hb=>(hL.mem_erase_iff.1 (zu3 hb)).1 rfl,ih (hL.sublist (List.erase_sublist ..))⟩
theorem zu2 (l:List Evt) {L:List Int} (hL:L.Nodup):(ordL l L).length≤L.length:=zsp (zu5 l hL) fun _ h=>zu3 h
structure StOk (l:List Evt) (s:List EntD):Prop where
 adj:adj s=true
 ev:∀ x∈s,∃ e,getE l x.id=some e∧e.kind=x.kind∧e.key=x.key
theorem StOk.nil (l:List Evt):StOk l []:=⟨rfl,fun x hx=>by cases hx⟩
theorem StOk.len {l:List Evt} {s:List EntD} (h:StOk l s):s.length≤l.length:=by
 have hnd:(s.map (·.id)).Nodup:=by
  rw[List.Nodup,List.pairwise_map]
  refine (adj_pairwise.1 h.adj).imp_of_mem fun {a b} ha hb hp he=>?_
  obtain⟨e,h1,h2,h3⟩:=h.ev a ha
  obtain⟨e',h1',h2',h3'⟩:=h.ev b hb
  rw[he,h1']at h1
  cases h1
  have hab:=key_inj h.adj ha hb ⟨by rw[← h2,← h2'],by rw[← h3,← h3']⟩
  subst hab
  rw[zwr]at hp
  cases hp
 have:=zsp (b:=l.map (·.id)) hnd fun n hn=>by
  obtain⟨x,hx,rfl⟩:=List.mem_map.1 hn
  obtain⟨e,he,_,_⟩:=h.ev x hx
  have h2:=List.find?_some he
  exact List.mem_map.2 ⟨e,List.mem_of_find?_eq_some he,by simpa using h2⟩
 simpa using this
theorem StOk.set {l:List Evt} {s:List EntD} (h:StOk l s) {e:Evt} (he:getE l e.id=some e):StOk l (setOf s e.kind e.key e.id):=by
 refine⟨adj_set h.adj _ _ _,fun x hx=>?_⟩
 obtain⟨p,r,h1,h2⟩:=yij h.adj e.kind e.key e.id
 rw[h1]at hx
 rcases List.mem_append.1 hx with hx|hx
 · refine h.ev x ?_
   rcases h2 with h2|⟨y,h2,_⟩<;>rw[h2]<;>exact List.mem_append_left _ hx
 · rcases List.mem_cons.1 hx with rfl|hx
   · exact⟨e,he,rfl,rfl⟩
   · refine h.ev x ?_
     rcases h2 with h2|⟨y,h2,_⟩<;>rw[h2]
     · exact List.mem_append_right _ hx
     · exact List.mem_append_right _ (List.mem_cons_of_mem _ hx)
theorem StOk.step {l:List Evt} {s:List EntD} (h:StOk l s) (id:Int):StOk l (yko l s id):=by
 unfold yko setD
 split
 · exact h
 · rename_i e he
   have h2:e.id=id:=by have:=List.find?_some he;simpa using this
   split
   · exact h
   · split
     · exact h
     · exact h.set (by rw[h2];exact he)
theorem StOk.apply {l:List Evt}:∀ (ids:List Int) {s:List EntD},StOk l s→StOk l (zd0 l s ids)
 | [],s,h=>h
 | x::ids,s,h=>StOk.apply ids (h.step x)
theorem StOk.filter {l:List Evt} {s:List EntD} (h:StOk l s) (p:EntD→Bool):StOk l (s.filter p) :=
 ⟨adj_pairwise.2 ((adj_pairwise.1 h.adj).filter _),fun x hx=>h.ev x (List.mem_filter.1 hx).1⟩
def zbw (ss:List (List EntD)):List EntD:=sameO (allOf ss) ss ss.length
theorem zby {l:List Evt} {ss:List (List EntD)} (h:∀ s∈ss,StOk l s):StOk l (zbw ss):=by
 unfold zbw sameO
 cases ss with
 | nil=>exact .nil l
 | cons s ss =>
  rw[if_neg (by simp)]
  exact (h s (List.mem_cons_self ..)).filter _
noncomputable def zmk (l:List Evt) (ss:List (List EntD)):List Int:=zmo (allOf ss) l ss
noncomputable def zwl (l:List Evt) (ss:List (List EntD)):List Int:=zwx l (zmk l ss)
noncomputable def zwf (l:List Evt) (ss:List (List EntD)):List Int:=ordL l (zpx l (zwl l ss))
noncomputable def midOf (l:List Evt) (ss:List (List EntD)):List EntD:=zd0 l (zbw ss) (zwf l ss)
def zq2 (l:List Evt) (s:List EntD):List Int:=match getOf s 3 [] with
 | some id=>wayOf l id
 | none=>[]
noncomputable def zvi (l:List Evt) (ss:List (List EntD)):List Int:=order2 l (zq2 l (midOf l ss)) (zrq (zmk l ss) (zwl l ss))
def yio (s:List EntD) (d:List EntD):List EntD:=d.foldl (fun s x=>setOf s x.kind x.key x.id) s
noncomputable def yiu (l:List Evt) (ss:List (List EntD)):List EntD:=yio (zd0 l (midOf l ss) (zvi l ss)) (zbw ss)
noncomputable def yf4 (l:List Evt) (ss:List (List EntD)):List EntD:=match ss with
 | []=>[]
 | [s]=>s
 | _=>yiu l ss
theorem yiq {l:List Evt}:∀ (d:List EntD) {s:List EntD},StOk l s→(∀ x∈d,∃ e,getE l x.id=some e∧e.kind=x.kind∧e.key=x.key)→StOk l (yio s d)
 | [],s,h,_=>h
 | x::d,s,h,hd=>by
  obtain⟨e,h1,h2,h3⟩:=hd x (List.mem_cons_self ..)
  have h4:e.id=x.id:=by have:=List.find?_some h1;simpa using this
  have h5:=h.set (by rw[h4];exact h1)
  rw[h2,h3,h4]at h5
  exact yiq d h5 fun y hy=>hd y (List.mem_cons_of_mem _ hy)
theorem yiz {l:List Evt} {ss:List (List EntD)} (h:∀ s∈ss,StOk l s):StOk l (yiu l ss) :=
 yiq _ (StOk.apply _ (StOk.apply _ (zby h))) (zby h).ev
theorem yf6 {l:List Evt} {ss:List (List EntD)} (h:∀ s∈ss,StOk l s):StOk l (yf4 l ss):=by
 unfold yf4
 split
 · exact .nil l
 · exact h _ (List.mem_cons_self ..)
 · exact yiz h
end Go.Proofs.YthjmjdleecmaeaaGreat
