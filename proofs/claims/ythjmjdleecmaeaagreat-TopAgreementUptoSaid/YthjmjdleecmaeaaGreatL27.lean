/- Several texts of the proof in one: M2, M3, M4, Fw, Lb, M5. No condition. -/
import Derived.Test.YthjmjdleecmaeaaGreatL26
import Derived.Lib.Walk
import Derived.Sort.WalkB12
import Derived.Shelf.RegionOpenPlain
import Derived.Shelf.GgSortFunc.InsertionK
import Derived.Shelf.SlSortCmp.Insertion
import Derived.Shelf.SlSortCmp.WholeK
import Derived.Shelf.SlSortCmp.NoneTotal
import Derived.Shelf.SlGeneric
import Derived.Ground.SlsfProg
import Derived.Test.YthjmjdleecmaeaaGreatProg
set_option linter.unusedSimpArgs false
set_option linter.unusedVariables false
set_option maxHeartbeats 4000000
set_option maxRecDepth 8000
namespace Go.Proofs.YthjmjdleecmaeaaGreat
open Go Go.Abs Go.Proofs.Tryz
def zad (s1 s2:St):Prop:=∀ id,id < 19000→s2.ver id=s1.ver id∧s2.h id=s1.h id
def zac (s1 s2:St):Prop:=∀ id,19998≤id→id≠19999→s2.ver id=s1.ver id∧s2.h id=s1.h id
def zag (R V:Nat) (r:Loop) (s0:St) (st:St) (Inv:St→Prop) (Q:Exit→St→Prop):Exit→St→Prop
 | .normal,s=>((s.ver R=V∧s.h R=recB r .busy none)∧zac s0 s)∧Inv (st.mem s)
 | .ret,s=>(s.ver R=V∧s.h R=recB r .busy none)∧Q .ret (st.mem (s.setH R .none))
 | .exit id,s=>(s.ver R=V∧s.h R=recB r .busy none)∧Q (.exit id) (st.mem (s.setH R .none))
 | _,_=>False
theorem yqe (R V:Nat) (r:Loop) (s0:St) (st:St) (Inv:St→Prop) (Q:Exit→St→Prop) (s:St):zag R V r s0 st Inv Q .normal s=(((s.ver R=V∧s.h R=recB r .busy none)∧zac s0 s)∧Inv (st.mem s)):=nrfl _
theorem yqf (R V:Nat) (r:Loop) (s0:St) (st:St) (Inv:St→Prop) (Q:Exit→St→Prop) (s:St):zag R V r s0 st Inv Q .ret s=((s.ver R=V∧s.h R=recB r .busy none)∧Q .ret (st.mem (s.setH R .none))):=nrfl _
attribute [go_sem ↓] yqe yqf
theorem zrd (st s:St) (d:Option Tmp) (x:AV):st.mem (s.put d x)=st.mem s:=by cases d<;>rfl
theorem zz2 (s:St) (d:Option Tmp) (x:AV) (R:Nat) (b:Blk):(s.put d x).setH R b=(s.setH R b).put d x:=by cases d<;>rfl
theorem zrf (si s:St) (R:Nat) (b:Blk):(si.mem s).setH R b=si.mem (s.setH R b):=rfl
theorem zrc (st si s:St):st.mem (si.mem s)=st.mem s:=rfl
theorem yii (s:St) (R:Nat) (a b:Blk):(s.setH R a).setH R b=s.setH R b:=by
 unfold St.setH
 congr 1
 funext j
 by_cases h:j=R<;>simp[upd,h]
theorem zqh {α:Type}:∀ (a b:List α),a.Pairwise (·≠·)→(∀ x∈a,x∈b)→a.length≤b.length
 | [],_,_,_=>Nat.zero_le _
 | x::a,b,ha,h=>by
  classical
  rw[List.pairwise_cons]at ha
  have hx:=h x (List.mem_cons_self ..)
  have h1:=zqh a (b.erase x) ha.2 fun y hy=>(List.mem_erase_of_ne (fun hh=>ha.1 y hy hh.symm)).2 (h y (List.mem_cons_of_mem _ hy))
  rw[List.length_erase_of_mem hx]at h1
  have:0 < b.length:=List.length_pos_of_mem hx
  rw[List.length_cons];omega
def Seen (l:List Evt) (seen:List Int):Prop:=seen.Pairwise (·≠·)∧∀ x∈seen,x∈l.map (·.id)
theorem Seen.len {l:List Evt} {seen:List Int} (h:Seen l seen):seen.length≤l.length:=by
 have:=zqh _ _ h.1 h.2
 rwa [List.length_map]at this
theorem znb {l:List Int} {x:Int} (h:hasJ l x=false):x∉l:=by
 unfold hasJ at h
 simpa using h
theorem getE_mem {l:List Evt} {id:Int} {e:Evt} (h:getE l id=some e):id∈l.map (·.id):=by
 unfold getE at h
 have h1:=List.find?_some h
 have h2:e.id=id:=by simpa using h1
 exact List.mem_map.2 ⟨e,List.mem_of_find?_eq_some h,h2⟩
theorem Seen.snoc {l:List Evt} {seen:List Int} {id:Int} {e:Evt} (h:Seen l seen) (hn:hasJ seen id=false) (hg:getE l id=some e):Seen l (seen++[id]):=by
 refine⟨List.pairwise_append.2 ⟨h.1,List.pairwise_singleton _ _,fun a ha b hb hab=>?_⟩,fun x hx=>?_⟩
 · simp only[List.mem_singleton]at hb
   subst hb;subst hab
   exact znb hn ha
 · rcases List.mem_append.1 hx with hx|hx
   · exact h.2 x hx
   · simp only[List.mem_singleton]at hx
     subst hx
     exact getE_mem hg
theorem yfn {w0:World} {S0:Nat→Prop} {n:Nat} {e00:Option Env} {st:St} {g:Operand} {ps:Array Tmp} {assign body:Code} {Q:Exit→St→Prop} {l:List Evt} {id:Int} (hf:Few l) (hl:l.length≤100000)
 (hg:st.ev g=.fn (.func 251) [] [.rptr 19998 (st.ver 19998) 0 0,.eptr [evs l] 0]) (hB:st.h 19998=.box [I id]) (hps1:ps.size=1) (hps:∀ t∈ps.toList,t < n)
 (Inv:Nat→St→Prop) (low:∀ k s1 s2,Inv k s1→s2.σ=s1.σ→zad s1 s2→Inv k s2) (h0:Inv 0 st)
 (round:∀ (k:Nat) (hk:k < (wayOf l id).length) (s1:St) (l':Nat) (r:Loop) (V:Nat) (e0:Option Env),Inv k s1→s1.σ=st.σ→s1.ver 19999=V→s1.h 19999=recB r .ready none →
  AWp ⟨prog,w0,S0,n,some l',fun d=>d,e0⟩ assign (PostAssign ⟨prog,w0,S0,n,none,fun d=>d,e00⟩ l' 19999 V r body (zag 19999 V r s1 st (Inv (k+1)) Q)) ⟨zjz st.σ ps.toList [I (wayOf l id)[k]],s1.ver,s1.h⟩)
 (done:∀ s1,Inv (wayOf l id).length s1→s1.σ=st.σ→Q .normal s1):AWp ⟨prog,w0,S0,n,none,fun d=>d,e00⟩ (.rangeFunc g ps assign body) Q st:=by
 have hm:l.length≤maxLen:=by unfold maxLen;omega
 refine AWp.rangeFunc 19999 20000 rfl hg func251 rfl rfl ntmps251 (congrArg Array.toList results251) (by simp) fun l' r e0 L=>AWp.of_vc [5] ?_
 simp[go_sem]
 refine AWp.ownNil 4 3 1 (by simp[go_sem]) ?_
 refine AWp.loop_vc [] (fun m s'=>∃ (k v:Nat) (seen:List Int) (cur:Int),k≤l.length∧m=l.length+1 - k∧s'.σ 0=.v (.func (.yield l') #[] #[])∧s'.σ 1=.rptr 19998 (st.ver 19998) 0 0∧s'.σ 2=.eptr [evs l] 0∧s'.σ 4=.ref 20004 v∧s'.ver 20004=v∧s'.h 20004=.arr 3 1 (seen.map I) ∧
  s'.ver 19998=st.ver 19998∧s'.h 19998=.box [I cur]∧s'.ver 19999=st.ver 19999+1∧s'.h 19999=recB r .ready none∧seen.length=k∧Seen l seen∧wayOf l id=seen++wayF l (l.length - k) seen cur∧Inv k (st.mem s')) (l.length+1) ⟨0,st.ver 20004+1,[],id,by simp,by simp,by simp[go_sem],by simp[go_sem],by simp[go_sem],by simp[go_sem],by simp[go_sem],by simp[go_sem],by simp[go_sem],by simp[go_sem,hB],by simp[go_sem],by simp[go_sem],rfl,⟨List.Pairwise.nil,fun x hx=>by cases hx⟩,rfl,low 0 st _ h0 rfl fun id h1=>?_⟩ ?_
 · have a1:¬ id=20004:=by omega
   have a2:¬ id=19999:=by omega
   simp[go_sem,a1,a2]
 rintro m s' ⟨k,v,seen,cur,hk,rfl,g0,g1,g2,g4,gv,gh,gVB,gB,gV,gR,hsl,hSeen,hW,gI⟩
 have hne:∀ d,¬ d+20000=19999:=fun d=>by omega
 have hne':∀ d,¬ 19999=d+20000:=fun d=>by omega
 have fin:∀ s:St,s.ver 19998=st.ver 19998→zad (st.mem s') s→seen.length=(wayOf l id).length→Q .normal (st.mem s):=fun s _ hag hlen=>by
  have:Inv (wayOf l id).length (st.mem s):=by
   rw[← hlen,hsl]
   exact low _ _ _ gI rfl fun id h1=>hag id h1
  exact done _ this rfl
 simp[go_sem,g0,g1,g2,g4,gv,gh,gVB,gB,gV,gR]
 refine CallSem.lent (r:=B (hasJ seen cur)) ?_ (zlr _) (by simp[go_sem]) ?_
 · simp[go_sem,g4,gv,gh]
   exact zhe seen cur
 cases hc:hasJ seen cur with
 | true =>
  have hE:wayOf l id=seen:=by
   rw[hW]
   cases l.length - k<;>simp[wayF,hc]
  simp[go_sem,g0,g1,g2,g4,gv,gh,gVB,gB,gV,gR]
  refine .inl (fin _ ?_ (fun id h1=>?_) (by rw[hE]))
  · simp[go_sem,gVB]
  · have a1:¬ id=19999:=by omega
    simp[go_sem,a1]
 | false =>
  simp[go_sem,g0,g1,g2,g4,gv,gh,gVB,gB,gV,gR]
  refine cpu (yi1 l cur) ?_
  cases hge:getE l cur with
  | none =>
   have hE:wayOf l id=seen:=by
    rw[hW]
    cases l.length - k<;>simp[wayF,hge]
   simp[go_sem,g0,g1,g2,g4,gv,gh,gVB,gB,gV,gR]
   refine .inl (fin _ ?_ (fun id h1=>?_) (by rw[hE]))
   · simp[go_sem,gVB]
   · have a1:¬ id=19999:=by omega
     have a2:¬ id=20005:=by omega
     simp[go_sem,a1,a2]
  | some e =>
   have hkl:k < l.length:=by
    have:=(hSeen.snoc hc hge).len
    rw[List.length_append,hsl]at this
    simp at this;omega
   obtain⟨n',hn'⟩:∃ n',l.length - k=n'+1:=⟨l.length - k - 1,by omega⟩
   have hstep:wayF l (l.length - k) seen cur=match powE l e with
    | none=>[cur]
    | some nx=>cur::wayF l n' (seen++[cur]) nx:=by
    rw[hn']
    show (if hasJ seen cur=true then [] else match getE l cur with
     | none=>[]
     | some e=>match powE l e with
      | none=>[cur]
      | some nx=>cur::wayF l n' (seen++[cur]) nx)=_
    rw[hc,hge];rfl
   have hkW:k < (wayOf l id).length:=by
    rw[hW,hstep,List.length_append,hsl]
    cases powE l e<;>simp
   have hWk:(wayOf l id)[k]=cur:=by
    have h1:(wayOf l id)[k]? = some cur:=by
     rw[hW,hstep,List.getElem?_append_right (by omega),hsl,Nat.sub_self]
     cases powE l e<;>rfl
    rw[List.getElem?_eq_getElem hkW]at h1
    exact Option.some.inj h1
   simp[go_sem,g0,g1,g2,g4,gv,gh,gVB,gB,gV,gR]
   refine YieldSem.round L (by simp[go_sem]) (by simp[hps1]) hps (by simp[go_sem,gV]) (by simp[go_sem,gR]) fun e0=>?_
   have round':=fun s1 l' r V e0=>round k hkW s1 l' r V e0
   simp only[hWk]at round'
   refine AWp.mono (round' (st.mem _) l' r (st.ver 19999+1) e0 (low k _ _ gI rfl fun id h1=>?_) rfl (by simp[go_sem,gV]) (by simp[go_sem,gR])) fun e1 s1 hpa=>PostAssign.mono (fun e2 s2 h2=>?_) hpa
   · have a1:¬ id=20005:=by omega
     simp[go_sem,a1]
   cases e2 with
   | normal =>
    obtain⟨⟨hcc,hhi⟩,hi⟩:=h2
    have b1:=hhi 19998 (by omega) (by omega)
    have b2:=hhi 20004 (by omega) (by omega)
    have b3:=hhi 20005 (by omega) (by omega)
    simp[go_sem,g0,g1,g2,g4,gv,gh,gVB,gB,gV,gR]at b1 b2 b3
    obtain⟨b1v,b1h⟩:=b1
    obtain⟨b2v,b2h⟩:=b2
    obtain⟨b3v,b3h⟩:=b3
    refine⟨hcc,?_⟩
    have hsn:=hSeen.snoc hc hge
    simp[go_sem,g0,g1,g2,g4,gv,gh,b1v,b1h,b2v,b2h,b3v,b3h,hsl]
    refine⟨⟨by omega,by omega⟩,?_⟩
    refine cpu (pow_ac l e (few_get hf hge)) ?_
    cases hp:powE l e with
    | none =>
     have hE:wayOf l id=seen++[cur]:=by rw[hW,hstep,hp]
     simp[go_sem,g0,g1,g2,g4,gv,gh,b1v,b1h,b2v,b2h,b3v,b3h]
     refine⟨by rw[hcc.1],.inl ?_⟩
     have:Inv (wayOf l id).length (st.mem (s2.setH 19999 .none)):=by
      rw[hE,List.length_append,hsl]
      exact low _ _ _ hi rfl fun id h1=>by
       have a1:¬ id=19999:=by omega
       simp[go_sem,a1]
     exact done _ (low _ _ _ this rfl fun id h1=>by
      have a1:¬ id=19999:=by omega
      have a2:¬ id=20004:=by omega
      have a3:¬ id=19998:=by omega
      simp[go_sem,a1,a2,a3]) rfl
    | some nx =>
     have hE:wayOf l id=(seen++[cur])++wayF l (l.length - (k+1)) (seen++[cur]) nx:=by
      rw[hW,hstep,hp,show l.length - (k+1)=n' by omega];simp
     simp[go_sem,g0,g1,g2,g4,gv,gh,b1v,b1h,b2v,b2h,b3v,b3h]
     refine⟨l.length+1 - (k+1),by omega,k+1,by omega,rfl,seen++[cur],by simp[I],by rw[hcc.1],by simp[hsl],hsn,by simpa using hE,low _ _ _ hi rfl fun id h1=>?_⟩
     have a1:¬ id=19999:=by omega
     have a2:¬ id=20004:=by omega
     have a3:¬ id=19998:=by omega
     simp[go_sem,a1,a2,a3]
   | ret =>
    obtain⟨hcc,hi⟩:=h2
    refine⟨hcc,?_⟩
    simp[go_sem]
    refine⟨by rw[hcc.1],.inr ⟨.ret,rfl,AWp.ret ?_⟩⟩
    simp only[zrd,zz2,zrf,zrc,yii]
    exact hi
   | exit id =>
    obtain⟨hcc,hi⟩:=h2
    refine⟨hcc,?_⟩
    simp[go_sem]
    refine⟨by rw[hcc.1],.inr ⟨.exit id,rfl,AWp.exit ?_⟩⟩
    simp only[zrd,zz2,zrf,zrc,yii]
    exact hi
   | _=>exact h2.elim
theorem few_len (l:List Evt) (id:Int):(wayOf l id).length≤l.length:=yq8 l l.length [] id
theorem way_ac (l:List Evt) (id:Int) (hsz:l.length≤100000) (hf:Few l):AC prog 148 [evs l,I id] (ints (wayOf l id)):=by
 refine AC.ob func148 ntmps148 results148 (zzj (zyk _) (zx1 _)) (zxe _) fun w S'=>AWp.of_vc [] ?_
 have hwl:=few_len l id
 simp[go_sem]
 refine CallSem.inline 19995 func216 rfl rfl ntmps216 (congrArg Array.toList results216) (by simp) (by simp[go_sem]) fun e1=>AWp.of_vc [3] ?_
 simp[go_sem]
 refine PostIn.ret (r:=.fn (.func 251) [] [.rptr 19998 1 0 0,.eptr [evs l] 0]) (by simp[go_sem,resIn]) ?_
 simp[go_sem]
 refine AWp.ownNilBox 5 32 3 1 (by simp[go_sem]) (by decide) ?_
 refine yfn (l:=l) (id:=id) hf hsz (by simp[go_sem]) (by simp[go_sem]) rfl (by simp) (fun k s1=>∃ v:Nat,s1.ver 5=1∧s1.h 5=.box [.ref 32 v]∧s1.ver 32=v∧s1.h 32=.arr 3 1 (((wayOf l id).take k).map I)) ?_ ⟨1,by simp[go_sem]⟩ ?_ ?_
 · rintro k s1 s2 ⟨v,h1,h2,h3,h4⟩ hσ hag
   have a5:=hag 5 (by decide)
   have a32:=hag 32 (by decide)
   exact⟨v,a5.1.trans h1,a5.2.trans h2,a32.1.trans h3,a32.2.trans h4⟩
 · rintro k hk s1 l' r V e0 ⟨v,h1,h2,h3,h4⟩ hσ hV hR
   have hstep:(wayOf l id).take (k+1)=(wayOf l id).take k++[(wayOf l id)[k]]:=List.take_succ_eq_append_getElem hk
   have hl:((wayOf l id).take k).length=k:=by rw[List.length_take];omega
   generalize (wayOf l id)[k]=y at hstep ⊢
   generalize (wayOf l id).take k=W at h4 hstep hl
   refine AWp.of_vc [6,32] ?_
   simp[go_sem,hV,hR]
   intro e2
   refine AWp.of_vc [6,32] ?_
   simp[go_sem,hV,hR,h1,h2,h3,h4,hstep]
   refine⟨⟨by omega,by omega⟩,fun id a b=>?_,by rw[← List.map_take,hstep];simp[I]⟩
   have n1:¬ id=5:=by omega
   have n2:¬ id=32:=by omega
   simp[go_sem,n1,n2,b]
 · rintro s1 ⟨v,h1,h2,h3,h4⟩ hσ
   rw[List.take_length]at h4
   simp[go_sem,hσ,h1,h2,h3,h4]
   refine PostR.retW [32] ?_ (.refl _)
   simp[go_sem,hσ,h1,h2,h3,h4]
def zgs (l:List Evt) (main:List Int) (id:Int):Int :=
 match (wayOf l id).find? (hasJ main) with
 | some x=>idxI (fun y=>x==y) main
 | none=>main.length
theorem idx_has {main:List Int} {x:Int}:(hasJ main x=true∧0≤idxI (fun y=>x==y) main)∨(hasJ main x=false∧idxI (fun y=>x==y) main=-1):=by
 rcases zn3 (fun y=>x==y) main with ⟨h1,h2⟩|⟨k,hk,h1,h2⟩
 · refine .inr ⟨?_,h2⟩
   rw[List.find?_eq_none]at h1
   cases hh:hasJ main x
   · rfl
   · unfold hasJ at hh
     exact (h1 x (by simpa using hh) (by simp)).elim
 · refine .inl ⟨?_,by omega⟩
   have:=List.find?_some h1
   have hx:x=main[k]:=by simpa using this
   unfold hasJ
   simp[hx]
theorem yfm {l:List Int} {p:Int→Bool} {k:Nat} (hk:k=l.length) (h:∀ (j:Nat) x,j < k→l[j]? = some x→p x=false):l.find? p=none:=zkq fun i x hi hx=>h i x (by omega) hx
theorem close_ac (l:List Evt) (main:List Int) (id:Int) (hsz:l.length≤100000) (hf:Few l):AC prog 305 [evs l,ints main,I id] (I (zgs l main id)):=by
 refine AC.ob func305 ntmps305 results305 (zzk (zyk _) (zyr _) (zx1 _)) (zx1 _) fun w S'=>AWp.of_vc [] ?_
 simp[go_sem]
 refine CallSem.inline 19995 func216 rfl rfl ntmps216 (congrArg Array.toList results216) (by simp) (by simp[go_sem]) fun e1=>AWp.of_vc [3] ?_
 simp[go_sem]
 refine PostIn.ret (r:=.fn (.func 251) [] [.rptr 19998 1 0 0,.eptr [evs l] 0]) (by simp[go_sem,resIn]) ?_
 simp[go_sem]
 refine yfn (l:=l) (id:=id) hf hsz (by simp[go_sem]) (by simp[go_sem]) rfl (by simp) (fun k s1=>s1.ver 6=1∧s1.h 6=.box [I 0]∧∀ (j:Nat) x,j < k→(wayOf l id)[j]? = some x→hasJ main x=false) ?_ ⟨by simp[go_sem],by simp[go_sem],fun j x hj=>by omega⟩ ?_ ?_
 · rintro k s1 s2 ⟨h1,h2,h3⟩ hσ hag
   have a6:=hag 6 (by decide)
   exact⟨a6.1.trans h1,a6.2.trans h2,h3⟩
 · rintro k hk s1 l' r V e0 ⟨h1,h2,hno⟩ hσ hV hR
   have hfs:=fun hp=>zku (p:=hasJ main) hk hno hp
   have hbs:=fun hp=>zes (P:=fun x=>hasJ main x=false) hk hno hp
   generalize (wayOf l id)[k]=y at hfs hbs ⊢
   refine AWp.of_vc [] ?_
   simp[go_sem,hV,hR]
   intro e2
   refine AWp.of_vc [] ?_
   simp[go_sem,hV,hR,h1,h2]
   refine cpu (zog main y) ?_
   rcases idx_has (main:=main) (x:=y) with ⟨hh,hi⟩|⟨hh,hi⟩
   · have hE:zgs l main id=idxI (fun z=>y==z) main:=by unfold zgs;rw[hfs hh]
     generalize idxI (fun z=>y==z) main=ix at hi hE ⊢
     have hi':¬ ix < 0:=by omega
     simp[go_sem,hV,hR,h1,h2,hi,hi']
     refine PostR.ret ?_
     simp[go_sem,hV,hR,h1,h2,hE]
   · simp[go_sem,hV,hR,h1,h2,hi]
     exact⟨fun id a b=>by simp[go_sem,b],hbs hh⟩
 · rintro s1 ⟨h1,h2,hno⟩ hσ
   have hE:zgs l main id=main.length:=by unfold zgs;rw[yfm rfl hno]
   simp[go_sem,hσ,h1,h2]
   refine PostR.ret ?_
   simp[go_sem,hσ,h1,h2,hE]
end Go.Proofs.YthjmjdleecmaeaaGreat
namespace Go.Proofs.YthjmjdleecmaeaaGreat
open Go Go.Abs Go.Shelf Go.RowKit Go.Lib Go.Sort Go.Proofs Go.Proofs.Tryz
structure Item where
 id:Int
 closest:Int
 time:Int
 deriving DecidableEq
instance : Inhabited Item:=⟨0,0,0⟩
def itc (x:Item):List Value:=[.int .i64 x.id,.int .i64 x.closest,.int .i64 x.time]
def cmpI (a b:Int):Int:=if a < b then -1 else if b < a then 1 else 0
def cmpT (a b:Item):Int:=if a.closest=b.closest then (if a.time=b.time then cmpI a.id b.id else cmpI a.time b.time) else cmpI b.closest a.closest
set_option maxHeartbeats 1000000 in
theorem zhb (a b:Int) (W:World):Calls prog 308 #[.int .i64 a,.int .i64 b] W fun e w'=>e=.returned (.int .i64 (cmpI a b))∧w'=W:=by
 unfold cmpI
 by_cases h1:a < b
 · rw[if_pos h1]
   go_enter func308,ntmps308
   go_wp2
   go_ret
   exact⟨rfl,rfl⟩
 · rw[if_neg h1]
   by_cases h2:b < a
   · rw[if_pos h2]
     go_enter func308,ntmps308
     go_wp2
     go_ret
     exact⟨rfl,rfl⟩
   · rw[if_neg h2]
     go_enter func308,ntmps308
     go_wp2
     go_ret
     exact⟨rfl,rfl⟩
theorem zgz (x y:Item) (W:World):Calls prog 307 #[.agg (itc x).toArray,.agg (itc y).toArray] W fun e w'=>e=.returned (.int .i64 (cmpT x y))∧∃ q os',w'=grow (W.drewN q) os':=by
 obtain⟨a1,b1,c1⟩:=x
 obtain⟨a2,b2,c2⟩:=y
 show Calls prog 307 #[.agg #[.int .i64 a1,.int .i64 b1,.int .i64 c1],.agg #[.int .i64 a2,.int .i64 b2,.int .i64 c2]] W fun e w'=>e=.returned (.int .i64 (if b1=b2 then (if c1=c2 then cmpI a1 a2 else cmpI c1 c2) else cmpI b2 b1))∧∃ q os',w'=grow (W.drewN q) os'
 by_cases h1:b1=b2
 · rw[if_pos h1]
   subst h1
   by_cases h2:c1=c2
   · rw[if_pos h2]
     subst h2
     have hcon:=zhb a1 a2
     generalize cmpI a1 a2=r at hcon ⊢
     go_enter func307,ntmps307
     go_wp2_with (go_at_call 308;refine (hcon _).mono ?_;rintro e w' ⟨rfl,rfl⟩)
     go_ret
     exact⟨rfl,0,_,by rw[alloc_eq_grow,alloc_eq_grow,grow_grow];rfl⟩
   · rw[if_neg h2]
     have hcon:=zhb c1 c2
     generalize cmpI c1 c2=r at hcon ⊢
     go_enter func307,ntmps307
     go_wp2_with (go_at_call 308;refine (hcon _).mono ?_;rintro e w' ⟨rfl,rfl⟩)
     go_ret
     exact⟨rfl,0,_,by rw[alloc_eq_grow,alloc_eq_grow,grow_grow];rfl⟩
 · rw[if_neg h1]
   have hcon:=zhb b2 b1
   generalize cmpI b2 b1=r at hcon ⊢
   go_enter func307,ntmps307
   go_wp2_with (go_at_call 308;refine (hcon _).mono ?_;rintro e w' ⟨rfl,rfl⟩)
   go_ret
   exact⟨rfl,0,_,by rw[alloc_eq_grow,alloc_eq_grow,grow_grow];rfl⟩
theorem zg0 {a b:Int}:cmpI a b < 0↔a < b:=by unfold cmpI;split<;>(try split)<;>constructor<;>intro h<;>omega
def itLt (x y:Item):Bool:=decide (y.closest < x.closest∨(x.closest=y.closest∧(x.time < y.time∨(x.time=y.time∧x.id < y.id))))
theorem zg1 (x y:Item):ltOf cmpT x y=itLt x y:=by
 unfold ltOf itLt cmpT
 apply decide_eq_decide.2
 split
 · split
   · rw[zg0];constructor
     · intro h;exact .inr ⟨by assumption,.inr ⟨by assumption,h⟩⟩
     · omega
   · rw[zg0];omega
 · rw[zg0];omega
theorem cmpT_swo:SWO (ltOf cmpT) where
 irrefl x:=by rw[zg1];unfold itLt;simp
 trans x y z h1 h2:=by rw[zg1]at *;unfold itLt at *;simp only[decide_eq_true_eq]at *;omega
 ntrans x y z h1 h2:=by rw[zg1]at *;unfold itLt at *;simp only[decide_eq_false_iff_not]at *;omega
theorem cmpT_tot (x y:Item) (h1:ltOf cmpT x y=false) (h2:ltOf cmpT y x=false):x=y:=by
 rw[zg1]at h1 h2
 unfold itLt at *
 simp only[decide_eq_false_iff_not]at *
 obtain⟨a1,b1,c1⟩:=x
 obtain⟨a2,b2,c2⟩:=y
 simp only[Item.mk.injEq]at *
 omega
theorem itc_len (x:Item):(itc x).length=3:=rfl
theorem itc_one (x:Item):∀ v∈itc x,v.oneCell'=true:=by
 intro v hv
 simp only[itc,List.mem_cons,List.not_mem_nil,or_false]at hv
 rcases hv with rfl|rfl|rfl<;>rfl
end Go.Proofs.YthjmjdleecmaeaaGreat
namespace Go.Abs
open Go Go.RowKit Go.Sort Go.Shelf Go.Proofs
theorem zle {α:Type} (enc:α→List Value) (k:Nat) (h0:0 < k) (hk:∀ x,(enc x).length=k):∀ (l:List α) (t:Nat),(l.flatMap enc)[t]? = (l[t / k]?).bind fun x=>(enc x)[t % k]?
 | [],t=>by simp
 | x::l,t=>by
  rw[List.flatMap_cons]
  by_cases ht:t < k
  · rw[List.getElem?_append_left (by rw[hk];exact ht),Nat.div_eq_of_lt ht,Nat.mod_eq_of_lt ht];rfl
  · have h1:t / k=(t - k) / k+1:=by
     have:=Nat.add_div_right (t - k) h0
     rwa [Nat.sub_add_cancel (by omega)]at this
    have h2:t % k=(t - k) % k:=Nat.mod_eq_sub_mod (by omega)
    rw[List.getElem?_append_right (by rw[hk];omega),hk,zle enc k h0 hk l (t - k),h1,h2];rfl
theorem zlf {α:Type} (enc:α→List Value) (k:Nat) (hk:∀ x,(enc x).length=k):∀ l:List α,(l.flatMap enc).length=l.length * k
 | []=>by simp
 | x::l=>by rw[List.flatMap_cons,List.length_append,hk,zlf enc k hk l,List.length_cons,Nat.add_mul];omega
theorem zlg {α:Type} [Inhabited α] (enc:α→List Value) (k:Nat) (h0:0 < k) (hk:∀ x,(enc x).length=k) (l:List α):(flatK enc k l.toArray).toList=l.flatMap enc:=by
 apply List.ext_getElem?
 intro t
 rw[zle enc k h0 hk]
 by_cases ht:t < l.length * k
 · have hd:t / k < l.length:=Nat.div_lt_of_lt_mul (by rw[Nat.mul_comm];exact ht)
   have hm:t % k < (enc l[t / k]).length:=by rw[hk];exact Nat.mod_lt _ h0
   have hf:=get_flatK enc k l.toArray t (by simpa using ht)
   have hsz:t < (flatK enc k l.toArray).size:=by rw[size_flatK];simpa using ht
   rw[getElem!_pos _ t hsz]at hf
   rw[Array.getElem?_toList,Array.getElem?_eq_getElem hsz,hf,List.getElem?_eq_getElem hd]
   have hg:l.toArray[t / k]! = l[t / k]:=by rw[getElem!_pos _ _ (by simpa using hd)];simp
   rw[hg,Option.bind_some,List.getElem?_eq_getElem hm,getElem!_pos (enc l[t / k]) (t % k) hm]
 · have hd:l.length≤t / k:=(Nat.le_div_iff_mul_le h0).2 (by omega)
   rw[List.getElem?_eq_none (by simpa using (by omega:l.length * k≤t)),List.getElem?_eq_none hd];rfl
def aggs {α:Type} (enc:α→List Value) (l:List α):List AV:=l.map fun x=>.agg ((enc x).map .v)
theorem zlj {α:Type} (enc:α→List Value) (l:List α):(aggs enc l).flatMap AV.cells=(l.flatMap enc).map .v:=by
 induction l with
 | nil=>rfl
 | cons x l ih =>
  unfold aggs at ih ⊢
  rw[List.map_cons,List.flatMap_cons,List.flatMap_cons,List.map_append,ih];rfl
section
variable {G:Ctx} {st:St} {E:Env} {a:Act}
theorem fn_val {f:FuncId} {x:Value} (h:VR E (.fn (.func f) [] []) x):x=.func (.func f) #[] #[]:=by
 cases h with
 | fn _ _ _ us vs h1 h2 _ _ =>
  have e1:us=#[]:=by apply Array.eq_empty_of_size_eq_zero;simpa using h1.symm
  have e2:vs=#[]:=by apply Array.eq_empty_of_size_eq_zero;simpa using h2.symm
  rw[e1,e2]
theorem CallSem.sortK {α:Type} [Inhabited α] {ρ:Ren} {id kk e k g:Nat} {l:List α} {dst:Option Tmp} {K:St→Prop} (L:SlLaysF0.n6 G.P ρ) (hfn:∃ fn,G.P.funcs[ρ.f 6]? = some fn∧fn.body.isSome=true∧(fn.name == "runtime.NumGoroutine")=false)
 (aE:∀ w,(isAgg (ρ.t 24)).run G.P w=.ok true w) (zE:∀ w,(Go.sizeOf (ρ.t 24)).run G.P w=.ok k w) (enc:α→List Value) (h0:0 < k) (hke:∀ x,(enc x).length=k) (h1:∀ x,∀ v∈enc x,v.oneCell'=true) (cf:α→α→Int) (hO:SWO (ltOf cf))
 (hT:∀ x y,(ltOf cf) x y=false→(ltOf cf) y x=false→x=y) (eg:∀ args w,(callFunc g args).run G.P w=.ok (.enter g args) w)
 (hcmp:∀ (x y:α) (W:World),Calls G.P g #[.agg (enc x).toArray,.agg (enc y).toArray] W fun e w'=>e=.returned (.int .i64 (cf x y))∧∃ q os',w'=grow (W.drewN q) os')
 (hk:kk=st.ver id) (hh:st.h id=.arr e k (aggs enc l)) (hd:dstOK G.n dst) (hsz:l.length < 4611686018427387904)
 (hK:K ((st.setH id (.arr e k (aggs enc (l.mergeSort fun x y=>!(ltOf cf) y x)))).put dst (.tup []))):CallSem G (ρ.f 6) [.ref id kk,.fn (.func g) [] []] dst K st:=by
 refine⟨hfn,fun E a vs hr hl hv=>?_⟩
 have hs:vs=#[(E.own id).val,.func (.func g) #[] #[]]:=by
  have h0:=hv 0 _ rfl
  have h1:=fn_val (hv 1 _ rfl)
  have h0':vs.getD 0 undef=(E.own id).val:=by cases h0 with|ref _ _ _ h1 h2=>exact h2 (by rw[hr.ver];exact hk)
  have hs1:vs.size=2:=hl
  apply Array.ext
  · simpa using hl
  · intro i h3 h4
    have:i=0∨i=1:=by omega
    rcases this with rfl|rfl
    · simpa [Array.getD_eq_getD_getElem?,hs1] using h0'
    · simpa [Array.getD_eq_getD_getElem?,hs1] using h1
 have hxs:=zlj enc l
 have hys:=zlj enc (l.mergeSort fun x y=>!(ltOf cf) y x)
 have hlen1:∀ y∈aggs enc (l.mergeSort fun x y=>!(ltOf cf) y x),y.cells.length=k:=by
  intro y hy
  obtain⟨x,_,rfl⟩:=List.mem_map.1 hy
  show ((enc x).map AV.v).length=k
  rw[List.length_map,hke]
 obtain⟨hvl,hrow⟩:=hr.arrRow hh hxs
 have hve:E.ver id=st.ver id:=by rw[hr.ver]
 rw[hs]
 have hll:(aggs enc l).length=l.length:=by simp[aggs]
 rcases hrow with ⟨hnil,hx⟩|⟨gb,cap,cur,hval,hg,hheap,hn,hc,hcs,ht⟩
 · have hl0:l=[]:=by simpa [aggs] using hx
   subst hl0
   rw[hnil]
   refine (AnyF.slices_SortFunc_none L none 0 _ E.w).mono ?_
   rintro en w' ⟨rfl,rfl⟩
   refine⟨_,rfl,_,E,rfl,Rel.put (r:=.tup []) ?_ (.tup [] #[] rfl (by simp)) (fun d he=>by rw[he]at hd;exact hd),hK⟩
   have:st.setH id (.arr e k (aggs enc (([]:List α).mergeSort fun x y=>!(ltOf cf) y x)))=st:=by
    simp only[St.setH,List.mergeSort_nil]
    rw[← hh,ypl]
   rw[this];exact hr
 · rw[hll]at hval hn
   simp only[hll]at ht hcs
   rw[hval]
   have hfl:=zlg enc k h0 hke l
   have hfs:(flatK enc k l.toArray).size=l.length * k:=by rw[size_flatK];simp
   have hsz':(flatK enc k l.toArray).size≤cur.size:=by rw[hfs];exact Nat.le_trans (Nat.mul_le_mul_right _ hn) hcs
   have hblt:gb < E.w.heap.size:=(Array.getElem?_eq_some_iff.1 hheap).1
   have hH:HoldsK enc k E.w gb 0 l.toArray:=znp (fun v:Value=>v) hheap (flatK enc k l.toArray) hsz' (by rw[hfs,hfl];simpa using ht)
   have hcall:=AnyQ.slices_SortFunc_total L k aE zE enc hke h1 cf hO g #[] gb 0 cap l.toArray E.w eg (fun m os dk _ x y=>hcmp x y _) hH hblt (by simpa using hsz) hT
   refine (Calls.mono (by simpa using hcall) ?_)
   rintro en w' ⟨rfl,n,os,rfl⟩
   have hml:(l.mergeSort fun x y=>!(ltOf cf) y x).length=l.length:=List.length_mergeSort _
   generalize l.mergeSort (fun x y=>!(ltOf cf) y x)=l2 at hml hlen1 hys hK ⊢
   have hfl2:=zlg enc k h0 hke l2
   have hfs2:(flatK enc k l2.toArray).size=l2.length * k:=by rw[size_flatK];simp
   obtain⟨hgb,hb'⟩:=ygi (fun v:Value=>v) hheap (flatK enc k l2.toArray) n os
   obtain⟨E',hw,hver,hval',hrel⟩:=hr.rewrite (v':=(E.own id).val) hh (by rw[hval];exact hgb) hlen1 hys (by
    rw[hval]
    refine⟨by rw[zlf enc k hke];simp[aggs],.inr ⟨gb,cap,_,by simp[aggs,hml],hg,hb',by simpa [aggs,hml] using hn,hc,?_,?_⟩⟩
    · rw[zzp];exact hcs
    · have hlk:(aggs enc l2).length * k=(flatK enc k l2.toArray).size:=by rw[hfs2];simp[aggs]
      rw[hlk,zzq _ _ _ (by rw[hfs2,hml];exact Nat.le_trans (Nat.mul_le_mul_right _ hn) hcs) _ (Nat.le_refl _),hfl2]
      rw[hfs2,← List.map_take,List.take_of_length_le (by rw[zlf enc k hke];exact Nat.le_refl _)]
      simp) (fun _ h=>h) (E.ver id) (Nat.le_refl _) (fun _=>rfl)
   refine⟨_,rfl,_,E',hw,Rel.put (r:=.tup []) ?_ (.tup [] #[] rfl (by simp)) (fun d he=>by rw[he]at hd;exact hd),hK⟩
   have:({ st with ver:=upd st.ver id (E.ver id),h:=upd st.h id (.arr e k (aggs enc l2)) }:St)=st.setH id (.arr e k (aggs enc l2)):=by
    simp only[St.setH,hve,ypl]
   rw[← this];exact hrel
end
end Go.Abs
namespace Go.Proofs
open Go.Shelf
def Tryz.sortF172_ren:Go.Shelf.Ren:=⟨fun|6=>172|15=>177|14=>224|28=>235|29=>236|20=>254|21=>255|22=>256|23=>257|24=>258|25=>259|26=>260|27=>261|46=>274|47=>263|48=>264|49=>275|50=>276|57=>280|n=>n,fun|22=>22|24=>45|25=>223|3=>3|39=>226|0=>0|53=>274|55=>212|4=>4|46=>268|45=>267|50=>149|5=>5|9=>9|66=>292|70=>296|76=>305|77=>306|n=>n,fun|n=>n⟩
def Tryz.sortF306_ren:Go.Shelf.Ren:=⟨fun|6=>306|15=>177|14=>310|28=>235|29=>236|20=>311|21=>312|22=>313|23=>314|24=>315|25=>316|26=>317|27=>318|46=>319|47=>263|48=>264|49=>320|50=>321|57=>322|n=>n,fun|22=>338|24=>341|25=>343|3=>3|39=>226|0=>0|53=>274|55=>212|4=>4|46=>268|45=>267|50=>149|5=>5|9=>9|66=>292|70=>296|76=>305|77=>306|n=>n,fun|n=>n⟩
theorem Tryz.sortF306:Go.Proofs.SlLaysF0.n6 Tryz.prog Tryz.sortF306_ren:={
 mixed:=by kernel_rfl
 f6:=⟨Tryz.f306.name,by decide,Tryz.func306.trans (congrArg some (by kernel_rfl))⟩
 f14:=⟨Tryz.f310.name,by decide,Tryz.func310.trans (congrArg some (by kernel_rfl))⟩
 f15:=Tryz.func177.trans (congrArg some (by kernel_rfl))
 f20:=⟨Tryz.f311.name,by decide,Tryz.func311.trans (congrArg some (by kernel_rfl))⟩
 f21:=⟨Tryz.f312.name,by decide,Tryz.func312.trans (congrArg some (by kernel_rfl))⟩
 f22:=⟨Tryz.f313.name,by decide,Tryz.func313.trans (congrArg some (by kernel_rfl))⟩
 f23:=⟨Tryz.f314.name,by decide,Tryz.func314.trans (congrArg some (by kernel_rfl))⟩
 f24:=⟨Tryz.f315.name,by decide,Tryz.func315.trans (congrArg some (by kernel_rfl))⟩
 f25:=⟨Tryz.f316.name,by decide,Tryz.func316.trans (congrArg some (by kernel_rfl))⟩
 f26:=⟨Tryz.f317.name,by decide,Tryz.func317.trans (congrArg some (by kernel_rfl))⟩
 f27:=⟨Tryz.f318.name,by decide,Tryz.func318.trans (congrArg some (by kernel_rfl))⟩
 f28:=Tryz.func235.trans (congrArg some (by kernel_rfl))
 f29:=Tryz.func236.trans (congrArg some (by kernel_rfl))
 f46:=⟨Tryz.f319.name,by decide,Tryz.func319.trans (congrArg some (by kernel_rfl))⟩
 f47:=Tryz.func263.trans (congrArg some (by kernel_rfl))
 f48:=Tryz.func264.trans (congrArg some (by kernel_rfl))
 f49:=⟨Tryz.f320.name,by decide,Tryz.func320.trans (congrArg some (by kernel_rfl))⟩
 f50:=⟨Tryz.f321.name,by decide,Tryz.func321.trans (congrArg some (by kernel_rfl))⟩
 f57:=⟨Tryz.f322.name,by decide,Tryz.func322.trans (congrArg some (by kernel_rfl))⟩
 t0:=Tryz.underlying0
 a0:=Tryz.isAgg0
 z0:=Tryz.sizeOf0
 v0:=Tryz.zeroValue0
 t3:=Tryz.underlying3
 a3:=Tryz.isAgg3
 z3:=Tryz.sizeOf3
 v3:=Tryz.zeroValue3
 t4:=Tryz.underlying4
 a4:=Tryz.isAgg4
 z4:=Tryz.sizeOf4
 v4:=Tryz.zeroValue4
 t5:=Tryz.underlying5
 a5:=Tryz.isAgg5
 z5:=Tryz.sizeOf5
 v5:=Tryz.zeroValue5
 t9:=Tryz.underlying9
 a9:=Tryz.isAgg9
 z9:=Tryz.sizeOf9
 v9:=Tryz.zeroValue9
 t22:=Tryz.underlying338
 a22:=Tryz.isAgg338
 z22:=Tryz.sizeOf338
 v22:=Tryz.zeroValue338
 t25:=Tryz.underlying343
 a25:=Tryz.isAgg343
 z25:=Tryz.sizeOf343
 v25:=Tryz.zeroValue343
 t39:=Tryz.underlying226
 a39:=Tryz.isAgg226
 z39:=Tryz.sizeOf226
 v39:=Tryz.zeroValue226
 t45:=Tryz.underlying267
 a45:=Tryz.isAgg267
 z45:=Tryz.sizeOf267
 v45:=Tryz.zeroValue267
 t46:=Tryz.underlying268
 a46:=Tryz.isAgg268
 z46:=Tryz.sizeOf268
 v46:=Tryz.zeroValue268
 t50:=Tryz.underlying149
 a50:=Tryz.isAgg149
 z50:=Tryz.sizeOf149
 v50:=Tryz.zeroValue149
 t53:=Tryz.underlying274
 a53:=Tryz.isAgg274
 z53:=Tryz.sizeOf274
 v53:=Tryz.zeroValue274
 t55:=Tryz.underlying212
 a55:=Tryz.isAgg212
 z55:=Tryz.sizeOf212
 v55:=Tryz.zeroValue212
 t66:=Tryz.underlying292
 a66:=Tryz.isAgg292
 z66:=Tryz.sizeOf292
 v66:=Tryz.zeroValue292
 t70:=Tryz.underlying296
 a70:=Tryz.isAgg296
 z70:=Tryz.sizeOf296
 v70:=Tryz.zeroValue296
 t76:=Tryz.underlying305
 a76:=Tryz.isAgg305
 z76:=Tryz.sizeOf305
 v76:=Tryz.zeroValue305
 t77:=Tryz.underlying306
 a77:=Tryz.isAgg306
 z77:=Tryz.sizeOf306
 v77:=Tryz.zeroValue306 }
end Go.Proofs
namespace Go.Proofs.YthjmjdleecmaeaaGreat
open Go Go.Abs Go.Shelf Go.RowKit Go.Lib Go.Sort Go.Proofs
def it (x:Item):AV:=.agg [I x.id,I x.closest,I x.time]
theorem its_eq (l:List Item):aggs itc l=l.map it:=rfl
def zo0 (l:List Evt) (main:List Int) (id:Int):Option Item:=(getE l id).map fun e=>⟨id,zgs l main id,e.time⟩
def zo1 (l:List Evt) (main ids:List Int):List Item:=ids.filterMap (zo0 l main)
def yjg (L:List Item):List Item:=L.mergeSort fun x y=>!(ltOf cmpT) y x
theorem zo3 {l:List Evt} {main ids:List Int} {q:Nat} (h:q < ids.length):zo1 l main (ids.take (q+1))=zo1 l main (ids.take q)++(zo0 l main ids[q]).toList:=by
 unfold zo1
 rw[List.take_succ_eq_append_getElem h,List.filterMap_append]
 simp only[List.filterMap_cons,List.filterMap_nil]
 cases zo0 l main ids[q]<;>rfl
theorem zo2 (l:List Evt) (main ids:List Int):(zo1 l main ids).length≤ids.length:=List.length_filterMap_le _ _
def outI (L:List Item) (q:Nat):List AV:=((L.take q).map (·.id)).map I
theorem zvo (L:List Item):outI L 0=[]:=rfl
theorem zvn {L:List Item} {q:Nat} (h:q < L.length):outI L (q+1)=outI L q++[I L[q].id]:=by
 unfold outI
 rw[List.take_succ_eq_append_getElem h,List.map_append,List.map_append];rfl
theorem zvm {L:List Item} {q:Nat} (h:q≤L.length):(outI L q).length=q:=by
 unfold outI
 rw[List.length_map,List.length_map,List.length_take];omega
theorem zvl {L:List Item} {q:Nat} (h:L.length≤q):outI L q=(L.map (·.id)).map I:=by
 unfold outI
 rw[List.take_of_length_le h]
theorem zaa {G:Ctx} {c:Code} {Q:Exit→St→Prop} {st:St} (h:∀ Q':Exit→St→Prop,Q'=Q→AWp G c Q' st):AWp G c Q st:=h Q rfl
end Go.Proofs.YthjmjdleecmaeaaGreat
