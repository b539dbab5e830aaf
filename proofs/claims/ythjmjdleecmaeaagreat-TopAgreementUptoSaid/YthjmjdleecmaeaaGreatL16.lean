/- Several texts of the proof in one: E1, B4. No condition. -/
import Derived.Test.YthjmjdleecmaeaaGreatL15
set_option linter.unusedSimpArgs false
set_option linter.unusedVariables false
set_option maxHeartbeats 4000000
set_option maxRecDepth 8000
namespace Go.Proofs.YthjmjdleecmaeaaGreat
open Go Go.Abs Go.Proofs.Tryz
universe u
variable {α:Type u}
theorem zn3 {α:Type} (p:α→Bool) (l:List α):(l.find? p=none∧idxI p l=-1)∨∃ k,∃ h:k < l.length,l.find? p=some l[k]∧idxI p l=(k:Int):=by
 unfold idxI
 cases h:l.findIdx? p with
 | none =>
  refine .inl ⟨?_,rfl⟩
  rw[List.find?_eq_none]
  rw[List.findIdx?_eq_none_iff]at h
  exact fun x hx=>by simp[h x hx]
 | some k =>
  rw[List.findIdx?_eq_some_iff_getElem]at h
  obtain⟨h1,h2,h3⟩:=h
  refine .inr ⟨k,h1,?_,rfl⟩
  rw[List.find?_eq_some_iff_getElem]
  exact⟨h2,k,h1,rfl,fun j hj=>by simpa using h3 j hj⟩
theorem zjj (l:List Evt):(l.map ev).length=l.length:=by simp
theorem evc_1' (x:Evt):((evc x).tail).take 1=[S x.room]:=rfl
attribute [go_sem] evc_1'
def evZ:Evt:=⟨0,[],[],0,false,[],0,0,[],[],⟨[],0,0,false,[],[],[],⟨[],[],0,0,0,0,0,0,0⟩⟩,0,⟨[],0⟩⟩
def evZc:List AV:=[I 0,S [],S [],I 0,B false,S [],I 0,I 0,.v (.slice none 0 0),.v (.slice none 0 0),S [],I 0,I 0,B false,S [],.v (.slice none 0 0),.v (.slice none 0 0),.v (.slice none 0 0),.v (.slice none 0 0),I 0,I 0,I 0,I 0,I 0,I 0,I 0,I 0,S [],I 0]
theorem yrc:WkL0 evZc (evc evZ):=⟨.refl _,.refl _,.refl _,.refl _,.refl _,.refl _,.refl _,.refl _,.nil _,.nil _,.refl _,.refl _,.refl _,.refl _,.refl _,.nil _,.nil _,.nil _,.nil _,.refl _,.refl _,.refl _,.refl _,.refl _,.refl _,.refl _,.refl _,.refl _,.refl _,trivial⟩
def getE (l:List Evt) (id:Int):Option Evt:=l.find? fun e=>e.id==id
def optE (o:Option Evt):AV:=.tup [ev (o.getD evZ),B o.isSome]
theorem zxk (o:Option Evt):PureR (optE o):=by
 intro r hr
 simp only[List.mem_cons,List.not_mem_nil,or_false]at hr
 rcases hr with rfl|rfl
 · exact zyh _
 · exact zx0 _
attribute [go_sem] optE
theorem zx8 {f:FuncId} {cap:List AV} (h:∀ c∈cap,Pure c):Pure (.fn (.func f) [] cap):=zym (fun c h=>by cases h) h
theorem zof (f:FuncId) (cap:List AV) (p:Evt→Bool) (hp:∀ e,AC prog f (ev e::cap) (B (p e))) (hcap:∀ c∈cap,Pure c) (l:List Evt):AC prog 75 [evs l,.fn (.func f) [] cap] (I (idxI p l)):=by
 refine AC.ob func75 ntmps75 results75 (zzj (zyk _) (zx8 hcap)) (zx1 _) fun w S'=>AWp.bound 0 rfl fun hlen=>AWp.of_vc [] ?_
 rw[zjj]at hlen
 simp[go_sem]
 refine AWp.loop_vc [] (fun m s=>∃ k:Nat,k≤l.length∧m=l.length - k∧s.σ 0=evs l∧s.σ 1=.fn (.func f) [] cap∧s.σ 7=I l.length∧s.σ 8=I k∧∀ (j:Nat) e,j < k→l[j]? = some e→p e=false) l.length ⟨0,by simp[go_sem]⟩ ?_
 rintro m s ⟨k,hk,rfl,h0,h1,h7,h8,hno⟩
 by_cases hlt:k < l.length
 · simp[go_sem,h0,h1,h7,h8,hlt]
   refine cpu (hp l[k]) ?_
   cases hpk:p l[k] with
   | true =>
    simp[go_sem,h0,h1,h7,h8,hlt]
    refine PostR.ret ?_
    simp[go_sem,zn4 hlt hpk hno]
   | false =>
    simp[go_sem,h0,h1,h7,h8,hlt,yro hlt hlen]
    refine⟨l.length - (k+1),by omega,k+1,by omega,rfl,rfl,?_⟩
    intro j e hj he
    rcases Nat.lt_succ_iff_lt_or_eq.1 hj with hj|rfl
    · exact hno j e hj he
    · rw[List.getElem?_eq_getElem hlt]at he;cases he;exact hpk
 · simp[go_sem,h0,h1,h7,h8,hlt]
   refine PostR.ret ?_
   have:idxI p l=-1:=zn5 fun j x hx=>hno j x (by have:=(List.getElem?_eq_some_iff.1 hx).1;omega) hx
   simp[go_sem,this]
theorem zv4 (e:Evt) (id:Int):AC prog 76 [ev e,.eptr [I id] 0] (B (e.id==id)):=by
 refine AC.ob func76 ntmps76 results76 (zzj (zyh _) (zyf fun c h=>by simp only[List.mem_singleton]at h;subst h;exact zx1 _)) (zx0 _) fun w S'=>AWp.of_vc [] ?_
 simp[go_sem]
 exact rets
theorem yjs (l:List Evt) (id:Int):AC prog 44 [evs l,I id] (I (idxI (fun e=>e.id==id) l)):=by
 refine AC.ob func44 ntmps44 results44 (zzj (zyk _) (zx1 _)) (zx1 _) fun w S'=>AWp.of_vc [] ?_
 simp[go_sem]
 refine cpu (zof 76 [.eptr [I id] 0] (fun e=>e.id==id) (fun e=>zv4 e id) (fun c h=>by simp only[List.mem_singleton]at h;subst h;exact zyf fun c h=>by simp only[List.mem_singleton]at h;subst h;exact zx1 _) l) ?_
 simp[go_sem]
 exact rets
theorem yi1 (l:List Evt) (id:Int):AC prog 23 [evs l,I id] (optE (getE l id)):=by
 refine AC.ob func23 ntmps23 results23 (zzj (zyk _) (zx1 _)) (zxk _) fun w S'=>AWp.of_vc [] ?_
 simp[go_sem]
 refine cpu (yjs l id) ?_
 rcases zn3 (fun e:Evt=>e.id==id) l with ⟨hf,hi⟩|⟨k,hk,hf,hi⟩
 · simp[go_sem,hi]
   refine PostR.retW [] (r0:=.tup [.agg evZc,B false]) (by simp[go_sem,evZc]) ?_
   have:getE l id=none:=hf
   rw[this]
   exact .tup ⟨.one (.agg yrc),.refl _,trivial⟩
 · have hneg:¬ ((k:Int) < 0):=by omega
   simp[go_sem,hi,hneg,hk]
   refine PostR.ret ?_
   have:getE l id=some l[k]:=hf
   simp[go_sem,this]
end Go.Proofs.YthjmjdleecmaeaaGreat
namespace Go.Proofs.YthjmjdleecmaeaaGreat
open Go Go.Abs Go.Proofs.Tryz
def bkT (l:List Bytes):Nat:=(l.map fun s=>1+s.length).sum
def bkU (l:List Level):Nat:=(l.map fun s=>1+s.user.length).sum
def bkC (c:Content):Nat:=c.text.length+c.via.length+bkT c.allow+bkT c.deny+bkU c.levels.users+c.levels.kinds.length
def SmC (c:Content):Prop:=bkC c≤10000000
def encLv (x:Level):Bytes:=encS x.user++encI x.n
def encKl (x:KindLevel):Bytes:=encI x.kind++encI x.n
def zqw (v:Levels):List Int:=[v.user,v.message,v.state,v.invite,v.kick,v.ban,v.redact]
def encC (c:Content):Bytes:=encS c.text++encI c.n++encI c.target++encB c.thread++encS c.via++encSs c.allow++encSs c.deny ++
 encI c.levels.users.length++c.levels.users.flatMap encLv++encI c.levels.kinds.length++c.levels.kinds.flatMap encKl++(zqw c.levels).flatMap encI
theorem zir (s:Bytes):(encS s).length≤10+s.length:=by
 have:=zim s.length
 simp only[encS,List.length_append];omega
theorem zik (b:Bool):(encB b).length≤1:=by cases b<;>simp[encB]
theorem ze1:∀ (l:List Bytes),(l.flatMap encS).length≤11 * bkT l∧l.length≤bkT l
 | []=>by simp[bkT]
 | s::l=>by
  have h1:=ze1 l
  have h2:=zir s
  simp only[bkT,List.flatMap_cons,List.length_append,List.map_cons,List.sum_cons,List.length_cons]at h1 ⊢
  omega
theorem zis (l:List Bytes):(encSs l).length≤10+11 * bkT l:=by
 have h1:=ze1 l
 have h2:=zim l.length
 simp only[encSs,List.length_append];omega
theorem ze2:∀ (l:List Level),(l.flatMap encLv).length≤21 * bkU l∧l.length≤bkU l
 | []=>by simp[bkU]
 | s::l=>by
  have h1:=ze2 l
  have h2:=zir s.user
  have h3:=zim s.n
  simp only[bkU,encLv,List.flatMap_cons,List.length_append,List.map_cons,List.sum_cons,List.length_cons]at h1 ⊢
  omega
theorem ziq:∀ (l:List KindLevel),(l.flatMap encKl).length≤20 * l.length
 | []=>by simp
 | s::l=>by
  have h1:=ziq l
  have h2:=zim s.kind
  have h3:=zim s.n
  simp only[encKl,List.flatMap_cons,List.length_append,List.length_cons]at h1 ⊢
  omega
theorem zin:∀ (l:List Int),(l.flatMap encI).length≤10 * l.length
 | []=>by simp
 | s::l=>by
  have h1:=zin l
  have h2:=zim s
  simp only[List.flatMap_cons,List.length_append,List.length_cons]at h1 ⊢
  omega
theorem zil {c:Content} (h:SmC c):(encC c).length≤1000000000:=by
 unfold SmC bkC at h
 have h1:=zir c.text
 have h2:=zim c.n
 have h3:=zim c.target
 have h4:=zik c.thread
 have h5:=zir c.via
 have h6:=zis c.allow
 have h7:=zis c.deny
 have h8:=zim c.levels.users.length
 have h9:=ze2 c.levels.users
 have h10:=zim c.levels.kinds.length
 have h11:=ziq c.levels.kinds
 have h12:=zin (zqw c.levels)
 have h13:(zqw c.levels).length=7:=rfl
 simp only[encC,List.length_append]
 omega
theorem zwp {α:Type} (f:α→Bytes) (l:List α) (q:Nat):((l.take q).flatMap f).length≤(l.flatMap f).length:=by
 have h2:l.flatMap f=(l.take q).flatMap f++(l.drop q).flatMap f:=by rw[← List.flatMap_append,List.take_append_drop]
 rw[h2,List.length_append];omega
theorem zuf {α:Type} (f:α→Bytes) (l:List α) (q:Nat) (h:q < l.length):(l.take (q+1)).flatMap f=(l.take q).flatMap f++f l[q]:=by
 rw[List.take_succ_eq_append_getElem h,List.flatMap_append,List.flatMap_singleton]
theorem zrb {α:Type} (f:α→Bytes) (l:List α) (q:Nat) (h:q < l.length):(f l[q]).length≤(l.flatMap f).length:=by
 have h1:=zwp f l (q+1)
 rw[zuf f l q h,List.length_append]at h1
 omega
theorem ctc_len (x:Content):(ctc x).length=16:=rfl
theorem ctc_take (x:Content):(ctc x).take 16=ctc x:=rfl
theorem ctc_ok (st:St) (x:Content):(ctc x).all (zte st)=true:=rfl
theorem ctc_0 (x:Content):(ctc x).take 1=[S x.text]:=rfl
theorem ctc_00 (x:Content):((ctc x).drop 0).take 1=[S x.text]:=rfl
theorem ctc_1 (x:Content):((ctc x).drop 1).take 1=[I x.n]:=rfl
theorem ctc_1' (x:Content):((ctc x).tail).take 1=[I x.n]:=rfl
theorem ctc_2 (x:Content):((ctc x).drop 2).take 1=[I x.target]:=rfl
theorem ctc_3 (x:Content):((ctc x).drop 3).take 1=[B x.thread]:=rfl
theorem ctc_4 (x:Content):((ctc x).drop 4).take 1=[S x.via]:=rfl
theorem ctc_5 (x:Content):((ctc x).drop 5).take 1=[strs x.allow]:=rfl
theorem ctc_6 (x:Content):((ctc x).drop 6).take 1=[strs x.deny]:=rfl
theorem ctc_7 (x:Content):((ctc x).drop 7).take 9=lvsc x.levels:=rfl
theorem zho (x:Content):((ctc x).drop 7)=lvsc x.levels:=rfl
theorem evc_10c (x:Evt):((evc x).drop 10).take 16=ctc x.content:=rfl
theorem zya (c:Content):Pure (.agg (ctc c)):=zx3 fun x hx=>by
 simp only[ctc,List.mem_cons,List.not_mem_nil,or_false]at hx
 rcases hx with rfl|rfl|rfl|rfl|rfl|rfl|rfl|rfl|rfl|rfl|rfl|rfl|rfl|rfl|rfl|rfl <;>
  first|exact zzh _|exact zzf _|exact zyx zyy|exact zyx zyt
theorem zw1 (c:Content):PureR (.agg (ctc c)):=zya c
attribute [go_sem] ctc_1' ctc_len ctc_take ctc_ok ctc_0 ctc_00 ctc_1 ctc_2 ctc_3 ctc_4 ctc_5 ctc_6 ctc_7 zho evc_10c
theorem zit (c:Content) (hs:SmC c):AC prog 121 [.agg (ctc c)] (bys (encC c)):=by
 refine AC.ob func121 ntmps121 results121 (zzi (zya _)) (zw0 _) fun w S'=>AWp.of_vc [] ?_
 have hC:=zil hs
 unfold encC at hC ⊢
 simp only[List.length_append]at hC
 have hs':=hs
 unfold SmC bkC at hs'
 have hU:=ze2 c.levels.users
 have hT1:=ze1 c.allow
 have hT2:=ze1 c.deny
 simp[go_sem]
 refine CallSem.by (zzw [] c.text (by simp) (by omega)) ⟨.nil _,.refl _,trivial⟩ (by simp[go_sem]) ?_
 simp[go_sem]
 refine cpu (zzt (encS c.text) c.n (by omega)) ?_
 obtain⟨Y1,hY1⟩:∃ Y1,(encS c.text)++encI c.n=Y1:=⟨_,rfl⟩
 have hY1l:Y1.length=(encS c.text).length+(encI c.n).length:=by rw[← hY1,List.length_append]
 rw[hY1]
 simp[go_sem]
 refine cpu (zzt Y1 c.target (by omega)) ?_
 obtain⟨Y2,hY2⟩:∃ Y2,Y1++encI c.target=Y2:=⟨_,rfl⟩
 have hY2l:Y2.length=Y1.length+(encI c.target).length:=by rw[← hY2,List.length_append]
 rw[hY2]
 simp[go_sem]
 refine cpu (zzo Y2 c.thread (by omega)) ?_
 obtain⟨Y3,hY3⟩:∃ Y3,Y2++encB c.thread=Y3:=⟨_,rfl⟩
 have hY3l:Y3.length=Y2.length+(encB c.thread).length:=by rw[← hY3,List.length_append]
 rw[hY3]
 simp[go_sem]
 refine cpu (zzw Y3 c.via (by omega) (by omega)) ?_
 obtain⟨Y4,hY4⟩:∃ Y4,Y3++encS c.via=Y4:=⟨_,rfl⟩
 have hY4l:Y4.length=Y3.length+(encS c.via).length:=by rw[← hY4,List.length_append]
 rw[hY4]
 simp[go_sem]
 refine cpu (zzx Y4 c.allow (by omega) (by omega) (by omega)) ?_
 obtain⟨Y5,hY5⟩:∃ Y5,Y4++encSs c.allow=Y5:=⟨_,rfl⟩
 have hY5l:Y5.length=Y4.length+(encSs c.allow).length:=by rw[← hY5,List.length_append]
 rw[hY5]
 simp[go_sem]
 refine cpu (zzx Y5 c.deny (by omega) (by omega) (by omega)) ?_
 obtain⟨Y6,hY6⟩:∃ Y6,Y5++encSs c.deny=Y6:=⟨_,rfl⟩
 have hY6l:Y6.length=Y5.length+(encSs c.deny).length:=by rw[← hY6,List.length_append]
 rw[hY6]
 simp[go_sem,lvsc]
 refine cpu (zzt Y6 c.levels.users.length (by omega)) ?_
 obtain⟨Y7,hY7⟩:∃ Y7,Y6++encI c.levels.users.length=Y7:=⟨_,rfl⟩
 have hY7l:Y7.length=Y6.length+(encI c.levels.users.length).length:=by rw[← hY7,List.length_append]
 rw[hY7]
 simp[go_sem,lvsc]
 have hUl:c.levels.users.length≤maxLen:=by unfold maxLen;omega
 have hKl:c.levels.kinds.length≤maxLen:=by unfold maxLen;omega
 generalize c.levels=v at *
 obtain⟨us,ks,n1,n2,n3,n4,n5,n6,n7⟩:=v
 simp only at *
 refine AWp.loop_vc [] (fun m s=>∃ q:Nat,q≤us.length∧m=us.length - q∧s.σ 4=.rptr 4 (s.ver 4) 0 0∧s.h 4=.box (lvsc ⟨us,ks,n1,n2,n3,n4,n5,n6,n7⟩)∧s.σ 46=.lst 2 (us.map fun u=>.agg (lvc u))∧s.σ 47=I us.length∧s.σ 48=I q∧s.σ 3=bys (Y7++(us.take q).flatMap encLv)) us.length ⟨0,by simp[go_sem,lvsc]⟩ ?_
 rintro m s ⟨q,hq,rfl,h4,hb4,h46,h47,h48,h3⟩
 by_cases hlt:q < us.length
 · have hone:=zuf encLv us q hlt
   have hpre:=zwp encLv us q
   have hmem:=zrb encLv us q hlt
   obtain⟨x,hx⟩:∃ x,us[q]=x:=⟨_,rfl⟩
   rw[hx]at hone hmem
   obtain⟨Z,hZ⟩:∃ Z,Y7++(us.take q).flatMap encLv=Z:=⟨_,rfl⟩
   have hZl:Z.length=Y7.length+((us.take q).flatMap encLv).length:=by rw[← hZ,List.length_append]
   rw[hZ]at h3
   have hxl:x.user.length+(encI x.n).length≤(encLv x).length:=by simp only[encLv,encS,List.length_append];omega
   have hxs:=zir x.user
   simp[go_sem,h4,hb4,h46,h47,h48,h3,hlt,hx,lvc]
   refine da ?_
   simp[go_sem,h4,hb4,h46,h47,h48,h3,hlt,lvc]
   refine CalmThen.pure (zzw Z x.user (by omega) (by omega)) rfl ?_
   simp[go_sem,h4,hb4,h46,h47,h48,h3,hlt,lvc]
   refine CalmThen.pure (zzt (Z++encS x.user) x.n (by rw[List.length_append];omega)) rfl ?_
   simp[go_sem,h4,hb4,h46,h47,h48,h3,hlt,lvc,yro hlt hUl]
   refine⟨us.length - (q+1),by omega,q+1,by omega,rfl,rfl,?_⟩
   rw[hone,← hZ]
   simp[encLv]
 · have htk:us.take q=us:=List.take_of_length_le (by omega)
   rw[htk]at h3
   obtain⟨Y8,hY8⟩:∃ Y8,Y7++us.flatMap encLv=Y8:=⟨_,rfl⟩
   have hY8l:Y8.length=Y7.length+(us.flatMap encLv).length:=by rw[← hY8,List.length_append]
   rw[hY8]at h3
   simp[go_sem,h4,hb4,h46,h47,h48,h3,hlt,lvsc]
   refine cpu (zzt Y8 ks.length (by omega)) ?_
   obtain⟨Y9,hY9⟩:∃ Y9,Y8++encI ks.length=Y9:=⟨_,rfl⟩
   have hY9l:Y9.length=Y8.length+(encI ks.length).length:=by rw[← hY9,List.length_append]
   rw[hY9]
   simp[go_sem,h4,hb4,h46,h47,h48,h3,hlt,lvsc]
   refine AWp.loop_vc [] (fun m s=>∃ q:Nat,q≤ks.length∧m=ks.length - q∧s.σ 4=.rptr 4 (s.ver 4) 0 0∧s.h 4=.box (lvsc ⟨us,ks,n1,n2,n3,n4,n5,n6,n7⟩)∧s.σ 66=.lst 2 (ks.map fun u=>.agg (klc u))∧s.σ 67=I ks.length∧s.σ 68=I q∧s.σ 3=bys (Y9++(ks.take q).flatMap encKl)) ks.length ⟨0,by simp[go_sem,lvsc,h4,hb4]⟩ ?_
   clear h4 hb4 h46 h47 h48 h3 hlt htk hq
   rintro m s ⟨q,hq,rfl,h4,hb4,h66,h67,h68,h3⟩
   by_cases hlt:q < ks.length
   · have hone:=zuf encKl ks q hlt
     have hpre:=zwp encKl ks q
     have hmem:=zrb encKl ks q hlt
     obtain⟨x,hx⟩:∃ x,ks[q]=x:=⟨_,rfl⟩
     rw[hx]at hone hmem
     obtain⟨Z,hZ⟩:∃ Z,Y9++(ks.take q).flatMap encKl=Z:=⟨_,rfl⟩
     have hZl:Z.length=Y9.length+((ks.take q).flatMap encKl).length:=by rw[← hZ,List.length_append]
     rw[hZ]at h3
     have hxl:=zim x.kind
     simp[go_sem,h4,hb4,h66,h67,h68,h3,hlt,hx,klc]
     refine da ?_
     simp[go_sem,h4,hb4,h66,h67,h68,h3,hlt,klc]
     refine CalmThen.pure (zzt Z x.kind (by omega)) rfl ?_
     simp[go_sem,h4,hb4,h66,h67,h68,h3,hlt,klc]
     refine CalmThen.pure (zzt (Z++encI x.kind) x.n (by rw[List.length_append];omega)) rfl ?_
     simp[go_sem,h4,hb4,h66,h67,h68,h3,hlt,klc,yro hlt hKl]
     refine⟨ks.length - (q+1),by omega,q+1,by omega,rfl,rfl,?_⟩
     rw[hone,← hZ]
     simp[encKl]
   · have htk:ks.take q=ks:=List.take_of_length_le (by omega)
     rw[htk]at h3
     obtain⟨Y10,hY10⟩:∃ Y10,Y9++ks.flatMap encKl=Y10:=⟨_,rfl⟩
     have hY10l:Y10.length=Y9.length+(ks.flatMap encKl).length:=by rw[← hY10,List.length_append]
     rw[hY10]at h3
     simp[go_sem,h4,hb4,h66,h67,h68,h3,hlt,lvsc]
     refine AWp.loop_vc [] (fun m s=>∃ q:Nat,q≤7∧m=7 - q∧s.σ 94=.agg ((zqw ⟨us,ks,n1,n2,n3,n4,n5,n6,n7⟩).map I)∧s.σ 95=I q∧s.σ 3=bys (Y10++((zqw ⟨us,ks,n1,n2,n3,n4,n5,n6,n7⟩).take q).flatMap encI)) 7 ⟨0,by simp[go_sem,zqw,h3]⟩ ?_
     clear h4 hb4 h66 h67 h68 h3 hlt htk hq
     have hNl:(zqw ⟨us,ks,n1,n2,n3,n4,n5,n6,n7⟩).length=7:=rfl
     generalize zqw ⟨us,ks,n1,n2,n3,n4,n5,n6,n7⟩=ns at *
     rintro m s ⟨q,hq,rfl,h94,h95,h3⟩
     by_cases hlt:q < 7
     · have hlt':q < ns.length:=by omega
       have hone:=zuf encI ns q hlt'
       have hpre:=zwp encI ns q
       obtain⟨x,hx⟩:∃ x,ns[q]=x:=⟨_,rfl⟩
       rw[hx]at hone
       obtain⟨Z,hZ⟩:∃ Z,Y10++(ns.take q).flatMap encI=Z:=⟨_,rfl⟩
       have hZl:Z.length=Y10.length+((ns.take q).flatMap encI).length:=by rw[← hZ,List.length_append]
       rw[hZ]at h3
       have hpart:((ns.map I).drop q).take 1=[I x]:=by
        rw[List.drop_eq_getElem_cons (by simpa using hlt'),List.take_succ_cons,List.take_zero]
        simp[hx]
       have hint:(q:Int) < 7:=by omega
       have hq6:q≤6:=by omega
       have hw:IntKind.i64.wrap ((q:Int)+1)=(q:Int)+1:=wrapB (by omega) (by omega)
       simp[go_sem,h94,h95,h3,hint,hNl,hpart,hq6,-List.map_drop,-List.map_take]
       refine cpu (zzt Z x (by omega)) ?_
       simp[go_sem,h94,h95,h3,hint,hw]
       refine⟨7 - (q+1),by omega,q+1,by omega,rfl,by omega,?_⟩
       rw[hone,← hZ]
       simp
     · have hint:¬ (q:Int) < 7:=by omega
       have htk:ns.take q=ns:=List.take_of_length_le (by omega)
       rw[htk]at h3
       simp[go_sem,h94,h95,h3,hint]
       refine PostR.ret ?_
       simp only[← hY10,← hY9,← hY8,← hY7,← hY6,← hY5,← hY4,← hY3,← hY2,← hY1]at h3 ⊢
       simp[go_sem,h3]
theorem zyz (v:Levels):Pure (.agg (lvsc v)):=zx3 fun x hx=>by
 simp only[lvsc,List.mem_cons,List.not_mem_nil,or_false]at hx
 rcases hx with rfl|rfl|rfl|rfl|rfl|rfl|rfl|rfl|rfl<;>first|exact zzh _|exact zyx zyy|exact zyx zyt
theorem rest_ac (v:Levels):AC prog 106 [.agg (lvsc v)] (ints (zqw v)):=by
 refine AC.ob func106 ntmps106 results106 (zzi (zyz v)) (zxe _) fun w S'=>AWp.of_vc [] ?_
 obtain⟨us,ks,n1,n2,n3,n4,n5,n6,n7⟩:=v
 simp[go_sem,lvsc]
 refine PostR.ret ?_
 simp[go_sem,zqw]
theorem yf2 (c:Content) (hs:SmC c):AC prog 65 [.agg (ctc c)] (bys (encC c)):=by
 refine AC.ob func65 ntmps65 results65 (zzi (zya _)) (zw0 _) fun w S'=>AWp.of_vc [] ?_
 have hC:=zil hs
 unfold encC at hC ⊢
 simp only[List.length_append]at hC
 have hs':=hs
 unfold SmC bkC at hs'
 have hU:=ze2 c.levels.users
 have hT1:=ze1 c.allow
 have hT2:=ze1 c.deny
 simp[go_sem]
 refine CallSem.by (ygm [] c.text (by simp) (by omega)) ⟨.nil _,.refl _,trivial⟩ (by simp[go_sem]) ?_
 simp[go_sem]
 refine cpu (ygl (encS c.text) c.n (by omega)) ?_
 obtain⟨Y1,hY1⟩:∃ Y1,(encS c.text)++encI c.n=Y1:=⟨_,rfl⟩
 have hY1l:Y1.length=(encS c.text).length+(encI c.n).length:=by rw[← hY1,List.length_append]
 rw[hY1]
 simp[go_sem]
 refine cpu (ygl Y1 c.target (by omega)) ?_
 obtain⟨Y2,hY2⟩:∃ Y2,Y1++encI c.target=Y2:=⟨_,rfl⟩
 have hY2l:Y2.length=Y1.length+(encI c.target).length:=by rw[← hY2,List.length_append]
 rw[hY2]
 simp[go_sem]
 refine cpu (ygj Y2 c.thread (by omega)) ?_
 obtain⟨Y3,hY3⟩:∃ Y3,Y2++encB c.thread=Y3:=⟨_,rfl⟩
 have hY3l:Y3.length=Y2.length+(encB c.thread).length:=by rw[← hY3,List.length_append]
 rw[hY3]
 simp[go_sem]
 refine cpu (ygm Y3 c.via (by omega) (by omega)) ?_
 obtain⟨Y4,hY4⟩:∃ Y4,Y3++encS c.via=Y4:=⟨_,rfl⟩
 have hY4l:Y4.length=Y3.length+(encS c.via).length:=by rw[← hY4,List.length_append]
 rw[hY4]
 simp[go_sem]
 refine cpu (ygn Y4 c.allow (by omega) (by omega) (by omega)) ?_
 obtain⟨Y5,hY5⟩:∃ Y5,Y4++encSs c.allow=Y5:=⟨_,rfl⟩
 have hY5l:Y5.length=Y4.length+(encSs c.allow).length:=by rw[← hY5,List.length_append]
 rw[hY5]
 simp[go_sem]
 refine cpu (ygn Y5 c.deny (by omega) (by omega) (by omega)) ?_
 obtain⟨Y6,hY6⟩:∃ Y6,Y5++encSs c.deny=Y6:=⟨_,rfl⟩
 have hY6l:Y6.length=Y5.length+(encSs c.deny).length:=by rw[← hY6,List.length_append]
 rw[hY6]
 simp[go_sem,lvsc]
 refine cpu (ygl Y6 c.levels.users.length (by omega)) ?_
 obtain⟨Y7,hY7⟩:∃ Y7,Y6++encI c.levels.users.length=Y7:=⟨_,rfl⟩
 have hY7l:Y7.length=Y6.length+(encI c.levels.users.length).length:=by rw[← hY7,List.length_append]
 rw[hY7]
 simp[go_sem,lvsc]
 have hUl:c.levels.users.length≤maxLen:=by unfold maxLen;omega
 have hKl:c.levels.kinds.length≤maxLen:=by unfold maxLen;omega
 have hrest:=rest_ac c.levels
 generalize c.levels=v at *
 obtain⟨us,ks,n1,n2,n3,n4,n5,n6,n7⟩:=v
 simp only at *
 refine AWp.loop_vc [] (fun m s=>∃ q:Nat,q≤us.length∧m=us.length - q∧s.σ 4=.rptr 4 (s.ver 4) 0 0∧s.h 4=.box (lvsc ⟨us,ks,n1,n2,n3,n4,n5,n6,n7⟩)∧s.σ 5=I q∧s.σ 3=bys (Y7++(us.take q).flatMap encLv)) us.length ⟨0,by simp[go_sem,lvsc]⟩ ?_
 rintro m s ⟨q,hq,rfl,h4,hb4,h5,h3⟩
 by_cases hlt:q < us.length
 · have hone:=zuf encLv us q hlt
   have hpre:=zwp encLv us q
   have hmem:=zrb encLv us q hlt
   obtain⟨x,hx⟩:∃ x,us[q]=x:=⟨_,rfl⟩
   rw[hx]at hone hmem
   obtain⟨Z,hZ⟩:∃ Z,Y7++(us.take q).flatMap encLv=Z:=⟨_,rfl⟩
   have hZl:Z.length=Y7.length+((us.take q).flatMap encLv).length:=by rw[← hZ,List.length_append]
   rw[hZ]at h3
   have hxl:x.user.length+(encI x.n).length≤(encLv x).length:=by simp only[encLv,encS,List.length_append];omega
   have hxs:=zir x.user
   simp[go_sem,h4,hb4,h5,h3,hlt,hx,lvc,lvsc]
   refine cpu (ygm Z x.user (by omega) (by omega)) ?_
   simp[go_sem,h4,hb4,h5,h3,hlt,hx,lvc,lvsc]
   refine cpu (ygl (Z++encS x.user) x.n (by rw[List.length_append];omega)) ?_
   simp[go_sem,h4,hb4,h5,h3,hlt,hx,lvc,lvsc,yro hlt hUl]
   refine⟨us.length - (q+1),by omega,q+1,by omega,rfl,rfl,?_⟩
   rw[hone,← hZ]
   simp[encLv]
 · have htk:us.take q=us:=List.take_of_length_le (by omega)
   rw[htk]at h3
   obtain⟨Y8,hY8⟩:∃ Y8,Y7++us.flatMap encLv=Y8:=⟨_,rfl⟩
   have hY8l:Y8.length=Y7.length+(us.flatMap encLv).length:=by rw[← hY8,List.length_append]
   rw[hY8]at h3
   simp[go_sem,h4,hb4,h5,h3,hlt,lvsc]
   refine cpu (ygl Y8 ks.length (by omega)) ?_
   obtain⟨Y9,hY9⟩:∃ Y9,Y8++encI ks.length=Y9:=⟨_,rfl⟩
   have hY9l:Y9.length=Y8.length+(encI ks.length).length:=by rw[← hY9,List.length_append]
   rw[hY9]
   simp[go_sem,h4,hb4,h5,h3,hlt,lvsc]
   refine AWp.loop_vc [] (fun m s=>∃ q:Nat,q≤ks.length∧m=ks.length - q∧s.σ 4=.rptr 4 (s.ver 4) 0 0∧s.h 4=.box (lvsc ⟨us,ks,n1,n2,n3,n4,n5,n6,n7⟩)∧s.σ 6=I q∧s.σ 3=bys (Y9++(ks.take q).flatMap encKl)) ks.length ⟨0,by simp[go_sem,lvsc,h4,hb4]⟩ ?_
   clear h4 hb4 h5 h3 hlt htk hq
   rintro m s ⟨q,hq,rfl,h4,hb4,h6,h3⟩
   by_cases hlt:q < ks.length
   · have hone:=zuf encKl ks q hlt
     have hpre:=zwp encKl ks q
     have hmem:=zrb encKl ks q hlt
     obtain⟨x,hx⟩:∃ x,ks[q]=x:=⟨_,rfl⟩
     rw[hx]at hone hmem
     obtain⟨Z,hZ⟩:∃ Z,Y9++(ks.take q).flatMap encKl=Z:=⟨_,rfl⟩
     have hZl:Z.length=Y9.length+((ks.take q).flatMap encKl).length:=by rw[← hZ,List.length_append]
     rw[hZ]at h3
     have hxl:=zim x.kind
     simp[go_sem,h4,hb4,h6,h3,hlt,hx,klc,lvsc]
     refine cpu (ygl Z x.kind (by omega)) ?_
     simp[go_sem,h4,hb4,h6,h3,hlt,hx,klc,lvsc]
     refine cpu (ygl (Z++encI x.kind) x.n (by rw[List.length_append];omega)) ?_
     simp[go_sem,h4,hb4,h6,h3,hlt,hx,klc,lvsc,yro hlt hKl]
     refine⟨ks.length - (q+1),by omega,q+1,by omega,rfl,rfl,?_⟩
     rw[hone,← hZ]
     simp[encKl]
   · have htk:ks.take q=ks:=List.take_of_length_le (by omega)
     rw[htk]at h3
     obtain⟨Y10,hY10⟩:∃ Y10,Y9++ks.flatMap encKl=Y10:=⟨_,rfl⟩
     have hY10l:Y10.length=Y9.length+(ks.flatMap encKl).length:=by rw[← hY10,List.length_append]
     rw[hY10]at h3
     have hNl:(zqw ⟨us,ks,n1,n2,n3,n4,n5,n6,n7⟩).length=7:=rfl
     simp[go_sem,h4,hb4,h6,h3,hlt,lvsc]
     refine cpu hrest ?_
     generalize zqw ⟨us,ks,n1,n2,n3,n4,n5,n6,n7⟩=ns at *
     simp[go_sem,h4,hb4,h6,h3,hlt,lvsc]
     refine AWp.loop_vc [] (fun m s=>∃ q:Nat,q≤7∧m=7 - q∧s.σ 7=ints ns∧s.σ 8=I q∧s.σ 3=bys (Y10++(ns.take q).flatMap encI)) 7 ⟨0,by simp[go_sem,h3]⟩ ?_
     clear h4 hb4 h6 h3 hlt htk hq
     rintro m s ⟨q,hq,rfl,h7,h8,h3⟩
     by_cases hlt:q < 7
     · have hlt':q < ns.length:=by omega
       have hone:=zuf encI ns q hlt'
       have hpre:=zwp encI ns q
       obtain⟨x,hx⟩:∃ x,ns[q]=x:=⟨_,rfl⟩
       rw[hx]at hone
       obtain⟨Z,hZ⟩:∃ Z,Y10++(ns.take q).flatMap encI=Z:=⟨_,rfl⟩
       have hZl:Z.length=Y10.length+((ns.take q).flatMap encI).length:=by rw[← hZ,List.length_append]
       rw[hZ]at h3
       have hw:IntKind.i64.wrap ((q:Int)+1)=(q:Int)+1:=wrapB (by omega) (by omega)
       have hint:(q:Int) < 7:=by omega
       simp[go_sem,h7,h8,h3,hlt,hlt',hNl,hx,hint]
       refine cpu (ygl Z x (by omega)) ?_
       simp[go_sem,h7,h8,h3,hlt,hw]
       refine⟨7 - (q+1),by omega,q+1,by omega,rfl,by omega,?_⟩
       rw[hone,← hZ]
       simp
     · have htk:ns.take q=ns:=List.take_of_length_le (by omega)
       rw[htk]at h3
       have hint:¬ (q:Int) < 7:=by omega
       simp[go_sem,h7,h8,h3,hlt,hNl,hint]
       refine PostR.ret ?_
       simp only[← hY10,← hY9,← hY8,← hY7,← hY6,← hY5,← hY4,← hY3,← hY2,← hY1]at h3 ⊢
       simp[go_sem,h3]
end Go.Proofs.YthjmjdleecmaeaaGreat
