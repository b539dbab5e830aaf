/- Several texts of the proof in one: Y4, Y5. No condition. -/
import Derived.Test.YthjmjdleecmaeaaGreatL40
import Derived.Test.YthjmjdleecmaeaaGreatL39
set_option linter.unusedSimpArgs false
set_option linter.unusedVariables false
set_option maxHeartbeats 4000000
set_option maxRecDepth 8000
namespace Go.Proofs.YthjmjdleecmaeaaGreat
open Go Go.Abs
variable {D:Int→Bool} {l l':List Evt}
theorem pw_ext {α:Type} {R:α→α→Prop} (hR:∀ a b,R a b→¬ R b a):∀ {A B:List α},A.Pairwise R→B.Pairwise R→(∀ x,x∈A↔x∈B)→A=B
 | [],[],_,_,_=>rfl
 | [],b::B,_,_,h=>absurd ((h b).2 (List.mem_cons_self ..)) (by simp)
 | a::A,[],_,_,h=>absurd ((h a).1 (List.mem_cons_self ..)) (by simp)
 | a::A,b::B,hA,hB,h=>by
  rw[List.pairwise_cons]at hA hB
  have hab:a=b:=by
   rcases List.mem_cons.1 ((h a).1 (List.mem_cons_self ..)) with h1|h1
   · exact h1
   · rcases List.mem_cons.1 ((h b).2 (List.mem_cons_self ..)) with h2|h2
     · exact h2.symm
     · exact absurd (hA.1 b h2) (hR _ _ (hB.1 a h1))
  subst hab
  rw[pw_ext hR hA.2 hB.2 fun x=>?_]
  constructor
  · intro hx
    rcases List.mem_cons.1 ((h x).1 (List.mem_cons_of_mem _ hx)) with rfl|h1
    · exact absurd (hA.1 x hx) (hR _ _ (hA.1 x hx))
    · exact h1
  · intro hx
    rcases List.mem_cons.1 ((h x).2 (List.mem_cons_of_mem _ hx)) with rfl|h1
    · exact absurd (hB.1 x hx) (hR _ _ (hB.1 x hx))
    · exact h1
structure TAgree (D:Int→Bool) (t t':Tab):Prop where
 before:∀ n,D n=true→t.before n=t'.before n
 after:∀ n,D n=true→t.after n=t'.after n
 errs:∀ n,D n=true→t.errs n=t'.errs n
 ins:∀ n,D n=true→∀ s,t.after n=some s→InS D s
theorem TAgree.symm {t t':Tab} (h:TAgree D t t'):TAgree D t' t :=
 ⟨fun n hn=>(h.before n hn).symm,fun n hn=>(h.after n hn).symm,fun n hn=>(h.errs n hn).symm,fun n hn s hs=>h.ins n hn s ((h.after n hn).trans hs)⟩
theorem TAgree.trans {t t' t'':Tab} (h:TAgree D t t') (g:TAgree D t' t''):TAgree D t t'' :=
 ⟨fun n hn=>(h.before n hn).trans (g.before n hn),fun n hn=>(h.after n hn).trans (g.after n hn),fun n hn=>(h.errs n hn).trans (g.errs n hn),h.ins⟩
theorem zds {p:Evt→Bool} (hp:∀ e,p (yk4 e)=p e) {A B:List Evt} (h:Tws A B):A.any p=B.any p:=by
 rw[← zdp hp A,← zdp hp B,h]
theorem zly (A:List Evt):∀ K:List EntD,(A.map yk4).foldlM zih K=A.foldlM zih K:=by
 induction A with
 | nil=>intro K;rfl
 | cons a A ih =>
  intro K
  rw[List.map_cons,List.foldlM_cons,List.foldlM_cons]
  have:zih K (yk4 a)=zih K a:=rfl
  rw[this]
  congr 1
  funext K'
  exact ih K'
theorem AgrD.fits (h:AgrD D l l') {e e':Evt} (he:Tw e e') (ha:InI D e.auth):zld l e=zld l' e':=by
 have hA:Tws (ofIds l e.auth) (ofIds l' e'.auth):=by
  rw[← he.auth]
  exact h.ofs ha
 have hg:gapOf l e.auth=gapOf l' e'.auth:=by
  rw[← he.auth]
  unfold gapOf
  refine zdn fun n hn=>?_
  obtain⟨a,a',g1,g2,g3⟩:=h.get n (ha n hn)
  rw[g1,g2];rfl
 have hr:ygg (ofIds l e.auth) e.room=ygg (ofIds l' e'.auth) e'.room:=by
  rw[← he.room]
  unfold ygg
  exact zds (fun _=>rfl) hA
 have hf:(ofIds l e.auth).foldlM zih (zpj e)=(ofIds l' e'.auth).foldlM zih (zpj e'):=by
  rw[← zly,← zly (ofIds l' e'.auth),hA,zpo he]
 have hk:(ofIds l e.auth).any (fun x=>x.kind==1)=(ofIds l' e'.auth).any (fun x=>x.kind==1):=zds (fun _=>rfl) hA
 unfold zld yo7
 rw[hg,hr,hf,he.kind,hk]
theorem AgrD.eventsOf (h:AgrD D l l') {s:List EntD} (hs:InS D s):Tws (eventsOf l s) (eventsOf l' s):=by
 unfold Tws Go.Proofs.YthjmjdleecmaeaaGreat.eventsOf
 rw[zq6,zq6]
 refine zj7 fun x hx=>?_
 obtain⟨e,e',h1,h2,h3⟩:=h.get x.id (hs x hx)
 rw[h1,h2]
 exact congrArg some h3
theorem AgrD.verdict (h:AgrD D l l') {e e':Evt} (he:Tw e e') (ha:InI D e.auth) {er er':Int→Option Int} (hr:∀ n,D n=true→er n=er' n) {s:List EntD} (hs:InS D s):yp4 l er e s=yp4 l' er' e' s:=by
 have hb:e.auth.any (badB er)=e'.auth.any (badB er'):=by
  rw[← he.auth]
  refine zdn fun n hn=>?_
  unfold badB errOf
  rw[hr n (ha n hn)]
 unfold yp4
 rw[h.fits he ha,zcs he (h.froms he ha),hb,zcs he (h.eventsOf hs)]
theorem zbn (h:AgrD D l l') {t t':Tab} (ht:TAgree D t t') {e e':Evt} (hd:D e.id=true) (he:Tw e e') (hp:InI D e.prev) (ha:InI D e.auth):TAgree D (addT l t e) (addT l' t' e'):=by
 have hb:zeh l t e=zeh l' t' e':=by
  unfold zeh
  rw[← he.prev]
  refine List.map_congr_left fun n hn=>?_
  unfold yke
  rw[ht.after n (hp n hn)]
 have hbi:InSs D (zeh l t e):=by
  intro s hs
  unfold zeh at hs
  obtain⟨n,hn,rfl⟩:=List.mem_map.1 hs
  unfold yke
  cases hx:t.after n with
  | none=>intro x hx;cases hx
  | some s=>exact ht.ins n (hp n hn) s hx
 obtain⟨r1,r2⟩:=h.resolve hbi
 have hv:=h.verdict he ha ht.errs r2
 obtain⟨s,hs⟩:∃ s,yf4 l (zeh l t e)=s:=⟨_,rfl⟩
 have hs':yf4 l' (zeh l' t' e')=s:=by rw[← hb,← r1,hs]
 rw[hs]at r2 hv
 obtain⟨v,hv1⟩:∃ v,yp4 l t.errs e s=v:=⟨_,rfl⟩
 have hv2:yp4 l' t'.errs e' s=v:=by rw[← hv,hv1]
 unfold addT
 simp only
 rw[hs,hs',hv1,hv2,← he.kind,← he.key,← he.id]
 obtain⟨a,hA⟩:∃ a,(if v=0∧1≤e.kind∧e.kind≤10 then setOf s e.kind e.key e.id else s)=a:=⟨_,rfl⟩
 have hAi:InS D a:=by
  rw[← hA]
  split
  · exact yik r2 _ _ hd
  · exact r2
 rw[hA]
 refine⟨fun n hn=>?_,fun n hn=>?_,fun n hn=>?_,fun n hn s' hs'=>?_⟩
 · show updO t.before e.id s n=updO t'.before e.id s n
   unfold updO
   by_cases h:n=e.id
   · rw[if_pos h,if_pos h]
   · rw[if_neg h,if_neg h];exact ht.before n hn
 · show updO t.after e.id a n=updO t'.after e.id a n
   unfold updO
   by_cases h:n=e.id
   · rw[if_pos h,if_pos h]
   · rw[if_neg h,if_neg h];exact ht.after n hn
 · show updO t.errs e.id v n=updO t'.errs e.id v n
   unfold updO
   by_cases h:n=e.id
   · rw[if_pos h,if_pos h]
   · rw[if_neg h,if_neg h];exact ht.errs n hn
 · have hs':updO t.after e.id a n=some s':=hs'
   unfold updO at hs'
   by_cases h:n=e.id
   · rw[if_pos h]at hs'
     cases hs'
     exact hAi
   · rw[if_neg h]at hs'
     exact ht.ins n hn s' hs'
theorem zbo {t t':Tab} (ht:TAgree D t t') {e:Evt} (hd:D e.id=false):TAgree D (addT l t e) t':=by
 have hne:∀ n,D n=true→¬ n=e.id:=fun n hn h=>by rw[h,hd]at hn;cases hn
 refine⟨fun n hn=>?_,fun n hn=>?_,fun n hn=>?_,fun n hn s hs=>?_⟩
 · unfold addT;simp only;unfold updO;rw[if_neg (hne n hn)];exact ht.before n hn
 · unfold addT;simp only;unfold updO;rw[if_neg (hne n hn)];exact ht.after n hn
 · unfold addT;simp only;unfold updO;rw[if_neg (hne n hn)];exact ht.errs n hn
 · unfold addT at hs;simp only at hs;unfold updO at hs;rw[if_neg (hne n hn)]at hs;exact ht.ins n hn s hs
theorem zmz {l:List Evt} {n:Int} {e:Evt} (h:getE l n=some e):e.id=n:=by have:=List.find?_some h;simpa using this
theorem zbk (h:AgrD D l l') {t t':Tab} (ht:TAgree D t t') {n:Int} (hd:D n=true):TAgree D (addId l t n) (addId l' t' n):=by
 obtain⟨e,e',h1,h2,h3⟩:=h.get n hd
 unfold addId
 rw[h1,h2]
 exact zbn h ht (by rw[Option.getD_some,zmz h1];exact hd) h3 (h.prev n hd e h1) (h.auth n hd e h1)
theorem zl1 (h:AgrD D l l'):∀ {O:List Int} {t t':Tab},(∀ n∈O,zpu l n=true)→TAgree D t t'→TAgree D (O.foldl (addId l) t) ((O.filter D).foldl (addId l) t')
 | [],_,_,_,ht=>ht
 | n::O,t,t',hk,ht=>by
  rw[List.foldl_cons,List.filter_cons]
  have hk':∀ m∈O,zpu l m=true:=fun m hm=>hk m (List.mem_cons_of_mem _ hm)
  cases hd:D n with
  | true =>
   rw[if_pos rfl,List.foldl_cons]
   exact zl1 h hk' (zbk h.left ht hd)
  | false =>
   rw[if_neg (by decide)]
   refine zl1 h hk' ?_
   have:=hk n (List.mem_cons_self ..)
   unfold zpu at this
   obtain⟨e,he⟩:=Option.isSome_iff_exists.1 this
   unfold addId
   rw[he]
   exact zbo ht (by rw[Option.getD_some,zmz he];exact hd)
theorem zl2 (h:AgrD D l l'):∀ {O:List Int} {t t':Tab},InI D O→TAgree D t t'→TAgree D (O.foldl (addId l) t) (O.foldl (addId l') t')
 | [],_,_,_,ht=>ht
 | n::O,t,t',hd,ht=>by
  rw[List.foldl_cons,List.foldl_cons]
  exact zl2 h (fun m hm=>hd m (List.mem_cons_of_mem _ hm)) (zbk h ht (hd n (List.mem_cons_self ..)))
def OrdR (l:List Evt) (n m:Int):Prop:=zh5 l n < zh5 l m∨zh5 l n=zh5 l m∧n < m
theorem zu8 (a b:Int) (h:OrdR l a b):¬ OrdR l b a:=by
 unfold OrdR at *
 omega
theorem zm2 {l:List Evt} (hn:(l.map (·.id)).Nodup) {e:Evt} (he:e∈l):getE l e.id=some e:=by
 induction l with
 | nil=>cases he
 | cons a l ih =>
  rw[List.map_cons,List.nodup_cons]at hn
  unfold getE
  rw[List.find?_cons]
  rcases List.mem_cons.1 he with rfl|he
  · simp
  · have hne:¬ a.id=e.id:=fun h=>hn.1 (List.mem_map.2 ⟨e,he,h.symm⟩)
    rw[beq_eq_false_iff_ne.2 hne]
    exact ih hn.2 he
theorem order_mem {l:List Evt} {n:Int}:n∈zvc l↔n∈l.map (·.id):=by
 unfold zvc
 exact ((zox l).map _).mem_iff
theorem zvf {l:List Evt} (hn:(l.map (·.id)).Nodup):(zvc l).Pairwise (OrdR l):=by
 have hnd:((zov l).map (·.id)).Nodup:=((zox l).map _).nodup_iff.2 hn
 unfold zvc
 rw[List.Nodup,List.pairwise_map]at hnd
 rw[List.pairwise_map]
 refine ((zoy l).and hnd).imp_of_mem fun {a b} ha hb h=>?_
 have ga:=zm2 hn ((zox l).mem_iff.1 ha)
 have gb:=zm2 hn ((zox l).mem_iff.1 hb)
 unfold OrdR zh5
 rw[ga,gb]
 obtain⟨h1,h2⟩:=h
 simp only[leE,Bool.or_eq_true,decide_eq_true_eq,Bool.and_eq_true,beq_iff_eq,Option.getD_some]at h1 ⊢
 omega
theorem AgrD.depthN (h:AgrD D l l') {n:Int} (hn:D n=true):zh5 l n=zh5 l' n:=by
 obtain⟨e,e',h1,h2,h3⟩:=h.get n hn
 unfold zh5
 rw[h1,h2]
 exact h3.depth
theorem AgrD.orders (h:AgrD D l l') (hn:(l.map (·.id)).Nodup) (hn':(l'.map (·.id)).Nodup):(zvc l).filter D=(zvc l').filter D:=by
 refine pw_ext zu8 ((zvf hn).filter _) (((zvf hn').filter _).imp_of_mem fun {a b} ha hb hab=>?_) fun n=>?_
 · unfold OrdR at *
   rw[h.depthN (List.mem_filter.1 ha).2,h.depthN (List.mem_filter.1 hb).2]
   exact hab
 · rw[List.mem_filter,List.mem_filter,order_mem,order_mem]
   refine and_congr_left fun hd=>?_
   obtain⟨e,e',h1,h2,h3⟩:=h.get n hd
   exact⟨fun _=>zmv h2,fun _=>zmv h1⟩
noncomputable def tabL (l:List Evt):Tab:=tabAt l (zvc l).length
theorem yom (l:List Evt):tabL l=(zvc l).foldl (addId l) tab0:=by
 unfold tabL tabAt
 rw[List.take_of_length_le (Nat.le_refl _)]
theorem zvd {l:List Evt}:∀ n∈zvc l,zpu l n=true:=fun n hn=>by
 obtain⟨e,he,_⟩:=zve hn
 unfold zpu
 rw[he];rfl
theorem AgrD.tab (h:AgrD D l l') (hn:(l.map (·.id)).Nodup) (hn':(l'.map (·.id)).Nodup):TAgree D (tabL l) (tabL l'):=by
 have h0:TAgree D tab0 tab0:=⟨fun _ _=>rfl,fun _ _=>rfl,fun _ _=>rfl,fun n _ s hs=>by cases hs⟩
 rw[yom,yom]
 refine (zl1 h zvd h0).trans ?_
 refine TAgree.trans ?_ (zl1 h.symm zvd h0).symm
 rw[← h.orders hn hn']
 exact zl2 h (fun n hn=>(List.mem_filter.1 hn).2) h0
structure Fine (l:List Evt):Prop where
 nd:(l.map (·.id)).Nodup
 st:yku l=0
 dp:zh9 l=0
theorem Fine.run (h:Fine l):runT l=some (tabL l):=by
 unfold runT
 rw[if_neg (not_not_intro h.st),if_neg (not_not_intro h.dp)]
 rfl
theorem zl0 (l:List Evt) (n:Int):∀ {O:List Int} {t:Tab},(∀ m∈O,zpu l m=true)→((t.errs n).isSome=true∨n∈O)→((O.foldl (addId l) t).errs n).isSome=true
 | [],t,_,h=>by
  rcases h with h|h
  · exact h
  · cases h
 | m::O,t,hk,h=>by
  rw[List.foldl_cons]
  refine zl0 l n (fun k hk'=>hk k (List.mem_cons_of_mem _ hk')) ?_
  have hm:=hk m (List.mem_cons_self ..)
  unfold zpu at hm
  obtain⟨e,he⟩:=Option.isSome_iff_exists.1 hm
  have hu:(addId l t m).errs=updO t.errs m (yp4 l t.errs e (yf4 l (zeh l t e))):=by
   unfold addId addT
   rw[he]
   simp only[Option.getD_some]
   rw[zmz he]
  rw[hu]
  unfold updO
  by_cases hnm:n=m
  · left
    rw[if_pos hnm];rfl
  · rw[if_neg hnm]
    rcases h with h|h
    · exact .inl h
    · rcases List.mem_cons.1 h with h|h
      · exact absurd h hnm
      · exact .inr h
theorem yon {l:List Evt} {n:Int} (h:n∈l.map (·.id)):((tabL l).errs n).isSome=true:=by
 rw[yom]
 exact zl0 l n zvd (.inr (order_mem.2 h))
theorem Fine.why (h:Fine l) {n:Int} (hn:n∈l.map (·.id)):whyI l n=errOf (tabL l).errs n:=by
 unfold whyI
 rw[h.run]
 simp only
 rw[if_pos (yon hn)]
theorem AgrD.why (g:AgrD D l l') (h:Fine l) (h':Fine l') {n:Int} (hn:D n=true):whyI l n=whyI l' n:=by
 obtain⟨e,e',h1,h2,h3⟩:=g.get n hn
 rw[h.why (zmv h1),h'.why (zmv h2)]
 unfold errOf
 rw[(g.tab h.nd h'.nd).errs n hn]
theorem accT_eq (t:Tab) (l:List Evt):accT t l=(l.map (·.id)).filter (okB t):=by
 unfold accT pickL
 rw[List.filter_map]
 rfl
theorem Fine.acc (h:Fine l):zbh l=(l.map (·.id)).filter fun n=>whyI l n==0:=by
 unfold zbh
 rw[h.run]
 simp only
 rw[accT_eq]
 refine zj9 fun n hn=>?_
 rw[h.why hn]
 rfl
theorem AgrD.acc (g:AgrD D l l') (h:Fine l) (h':Fine l') (hi:(l.map (·.id)).filter D=(l'.map (·.id)).filter D)
 (hr:∀ n∈l.map (·.id),D n=false→whyI l n≠0) (hr':∀ n∈l'.map (·.id),D n=false→whyI l' n≠0):zbh l=zbh l'∧InI D (zbh l):=by
 have key:∀ {m:List Evt},Fine m→(∀ n∈m.map (·.id),D n=false→whyI m n≠0)→zbh m=((m.map (·.id)).filter D).filter fun n=>whyI m n==0:=by
  intro m hm hmr
  rw[hm.acc,List.filter_filter]
  refine zj9 fun n hn=>?_
  cases hd:D n with
  | true=>simp
  | false=>simp[hmr n hn hd]
 rw[key h hr,key h' hr',← hi]
 refine⟨zj9 fun n hn=>?_,fun n hn=>(List.mem_filter.1 (List.mem_filter.1 hn).1).2⟩
 rw[g.why h h' (List.mem_filter.1 hn).2]
theorem AgrD.headsOf (g:AgrD D l l') {L:List Int} (hL:InI D L):headsOf l L=headsOf l' L:=by
 have:zep l L=zep l' L:=zlh fun n hn=>by
  obtain⟨e,e',h1,h2,h3⟩:=g.get n (hL n hn)
  rw[h1,h2]
  simp only[Option.map_some,Option.getD_some,zen,h3.prev]
 unfold Go.Proofs.YthjmjdleecmaeaaGreat.headsOf
 rw[this]
theorem znh {L:List Int} (hL:InI D L):InI D (headsOf l L):=fun n hn=>by
 unfold headsOf at hn
 exact hL n (List.mem_filter.1 ((yjo _).2 n |>.1 hn)).1
theorem AgrD.heads (g:AgrD D l l') (h:Fine l) (h':Fine l') (hi:(l.map (·.id)).filter D=(l'.map (·.id)).filter D)
 (hr:∀ n∈l.map (·.id),D n=false→whyI l n≠0) (hr':∀ n∈l'.map (·.id),D n=false→whyI l' n≠0):znf l=znf l':=by
 obtain⟨h1,h2⟩:=g.acc h h' hi hr hr'
 unfold znf
 rw[← h1,g.headsOf h2]
theorem Fine.current (h:Fine l):zhp l=yf4 l ((znf l).map (yke (tabL l))):=by
 unfold zhp znf zbh
 rw[h.run]
theorem AgrD.current (g:AgrD D l l') (h:Fine l) (h':Fine l') (hi:(l.map (·.id)).filter D=(l'.map (·.id)).filter D)
 (hr:∀ n∈l.map (·.id),D n=false→whyI l n≠0) (hr':∀ n∈l'.map (·.id),D n=false→whyI l' n≠0):zhp l=zhp l':=by
 obtain⟨h1,h2⟩:=g.acc h h' hi hr hr'
 have hH:InI D (znf l):=znh h2
 have ht:=g.tab h.nd h'.nd
 rw[h.current,h'.current,← g.heads h h' hi hr hr']
 have hm:(znf l).map (yke (tabL l))=(znf l).map (yke (tabL l')):=List.map_congr_left fun n hn=>by
  unfold yke
  rw[ht.after n (hH n hn)]
 rw[← hm]
 refine (g.resolve fun s hs=>?_).1
 obtain⟨n,hn,rfl⟩:=List.mem_map.1 hs
 unfold yke
 cases hx:(tabL l).after n with
 | none=>intro x hx;cases hx
 | some s=>exact ht.ins n (hH n hn) s hx
end Go.Proofs.YthjmjdleecmaeaaGreat
namespace Go.Proofs.YthjmjdleecmaeaaGreat
open Go Go.Abs
def Le (l m:List Evt):Prop:=∀ e∈l,∃ e'∈m,Tw e e'
theorem Le.rfl' (l:List Evt):Le l l:=fun e he=>⟨e,he,Eq.refl _⟩
theorem Le.trans' {a b c:List Evt} (h:Le a b) (g:Le b c):Le a c:=fun e he=>by
 obtain⟨e1,h1,h2⟩:=h e he
 obtain⟨e2,h3,h4⟩:=g e1 h1
 exact⟨e2,h3,h2.trans' h4⟩
theorem Le.sub {a b:List Evt} (h:∀ x∈a,x∈b):Le a b:=fun e he=>⟨e,h e he,Eq.refl _⟩
theorem zp1 {l:List Evt} {n:Int} (h:zpu l n=true):∃ e∈l,e.id=n∧getE l n=some e:=by
 unfold zpu at h
 obtain⟨e,he⟩:=Option.isSome_iff_exists.1 h
 exact⟨e,List.mem_of_find?_eq_some he,zmz he,he⟩
theorem zp2 {l:List Evt} {e:Evt} (h:e∈l):zpu l e.id=true:=by
 unfold zpu getE
 rw[List.find?_isSome]
 exact⟨e,h,by simp⟩
theorem known_iff {l:List Evt} {n:Int}:zpu l n=true↔n∈l.map (·.id):=by
 constructor
 · intro h
   obtain⟨e,h1,h2,_⟩:=zp1 h
   exact List.mem_map.2 ⟨e,h1,h2⟩
 · intro h
   obtain⟨e,h1,rfl⟩:=List.mem_map.1 h
   exact zp2 h1
theorem zgx {l:List Evt} (h:zgu l=true) {e:Evt} (he:e∈l):(∀ n∈e.prev,zpu l n=true)∧∀ n∈e.auth,zpu l n=true:=by
 unfold zgu at h
 have:=List.all_eq_true.1 h e he
 rw[Bool.and_eq_true]at this
 unfold zb9 at this
 exact⟨List.all_eq_true.1 this.1,List.all_eq_true.1 this.2⟩
theorem Le.agree {l m:List Evt} (h:Le l m) (hc:zgu l=true) (hm:(m.map (·.id)).Nodup):AgrD (zpu l) l m:=by
 refine⟨fun n hn=>?_,fun n hn e he=>?_,fun n hn e he=>?_⟩
 · obtain⟨e,h1,h2,h3⟩:=zp1 hn
   obtain⟨e',g1,g2⟩:=h e h1
   refine⟨e,e',h3,?_,g2⟩
   rw[← h2,g2.id]
   exact zm2 hm g1
 · exact (zgx hc (List.mem_of_find?_eq_some he)).1
 · exact (zgx hc (List.mem_of_find?_eq_some he)).2
theorem depth0 {l:List Evt} (h:zh9 l=0):zgu l=true∧∀ e∈l,deepP l e=true:=by
 unfold zh9 at h
 split at h
 · rename_i hc
   split at h
   · rename_i ha;exact⟨hc,List.all_eq_true.1 ha⟩
   · cases h
 · cases h
theorem depth_of {l:List Evt} (hc:zgu l=true) (h:∀ e∈l,deepP l e=true):zh9 l=0:=by
 unfold zh9
 rw[if_pos hc,if_pos (List.all_eq_true.2 h)]
theorem Fine.closed {l:List Evt} (h:Fine l):zgu l=true:=(depth0 h.dp).1
theorem Fine.why_le {l m:List Evt} (h:Fine l) (g:Fine m) (hl:Le l m) {n:Int} (hn:zpu l n=true):whyI l n=whyI m n :=
 (hl.agree h.closed g.nd).why h g hn
theorem yhy {l m:List Evt} (h:Fine l) (g:Fine m) (hl:Le l m) (hi:m.map (·.id)=l.map (·.id)):znf l=znf m∧zhp l=zhp m:=by
 have ha:=hl.agree h.closed g.nd
 have hf:(l.map (·.id)).filter (zpu l)=(m.map (·.id)).filter (zpu l):=by rw[hi]
 have hr:∀ n∈l.map (·.id),zpu l n=false→whyI l n≠0:=fun n hn hk=>by rw[known_iff.2 hn]at hk;cases hk
 have hr':∀ n∈m.map (·.id),zpu l n=false→whyI m n≠0:=fun n hn hk=>by rw[hi]at hn;rw[known_iff.2 hn]at hk;cases hk
 exact⟨ha.heads h g hf hr hr',ha.current h g hf hr hr'⟩
theorem zh6 {l m:List Evt} {e:Evt} {p:List Int} (h:∀ n∈p,zh5 l n=zh5 m n) (d:Int):zrx l d p=zrx m d p:=by
 unfold zrx
 induction p generalizing d with
 | nil=>rfl
 | cons a p ih =>
  rw[List.foldl_cons,List.foldl_cons,h a (List.mem_cons_self ..)]
  exact ih (fun n hn=>h n (List.mem_cons_of_mem _ hn)) _
theorem zh2 {l m:List Evt} {e e':Evt} (he:Tw e e') (hp:∀ n∈e.prev,zh5 l n=zh5 m n) (ha:∀ n∈e.auth,zh5 l n=zh5 m n):deepP l e=deepP m e':=by
 unfold deepP
 have h1:zd6 l e=zd6 m e':=by
  unfold zd6
  rw[← he.auth,← he.depth]
  exact zdn fun n hn=>by rw[ha n hn]
 have h2:zr4 l e=zr4 m e':=by
  unfold zr4
  rw[← he.prev,← he.depth]
  cases hx:e.prev with
  | nil=>rfl
  | cons n r =>
   rw[hx]at hp
   simp only
   rw[hp n (List.mem_cons_self ..),zh6 (e:=e) hp]
 rw[h1,h2]
theorem zh7 {l m:List Evt} (h:Le l m) (hm:(m.map (·.id)).Nodup) {n:Int} (hn:zpu l n=true):zh5 l n=zh5 m n:=by
 obtain⟨e,h1,h2,h3⟩:=zp1 hn
 obtain⟨e',g1,g2⟩:=h e h1
 have:getE m n=some e':=by rw[← h2,g2.id];exact zm2 hm g1
 unfold zh5
 rw[h3,this]
 exact g2.depth
theorem ypb {l m:List Evt} (h:zh9 l=0) (hl:Le l m) (hg:Le m l) (hm:(m.map (·.id)).Nodup):zh9 m=0:=by
 obtain⟨hc,hd⟩:=depth0 h
 have key:∀ e'∈m,∃ e∈l,Tw e e':=fun e' he'=>by
  obtain⟨e,h1,h2⟩:=hg e' he'
  exact⟨e,h1,h2.symm'⟩
 have hk:∀ n,zpu l n=true→zpu m n=true:=fun n hn=>by
  obtain⟨e,h1,h2,_⟩:=zp1 hn
  obtain⟨e',g1,g2⟩:=hl e h1
  rw[← h2,g2.id]
  exact zp2 g1
 refine depth_of ?_ fun e' he'=>?_
 · unfold zgu
   refine List.all_eq_true.2 fun e' he'=>?_
   obtain⟨e,h1,h2⟩:=key e' he'
   obtain⟨c1,c2⟩:=zgx hc h1
   rw[Bool.and_eq_true]
   unfold zb9
   rw[← h2.prev,← h2.auth]
   exact⟨List.all_eq_true.2 fun n hn=>hk n (c1 n hn),List.all_eq_true.2 fun n hn=>hk n (c2 n hn)⟩
 · obtain⟨e,h1,h2⟩:=key e' he'
   obtain⟨c1,c2⟩:=zgx hc h1
   rw[← zh2 h2 (fun n hn=>zh7 hl hm (c1 n hn)) fun n hn=>zh7 hl hm (c2 n hn)]
   exact hd e h1
theorem zd5 {l:List Evt} (h:Fine l) {n:Int} (hn:zpu l n=true):(atS l n).2=if whyI l n=0 then 4 else 2:=by
 unfold atS
 rw[h.run,h.why (known_iff.1 hn)]
 simp only
 rw[if_pos (yon (known_iff.1 hn))]
 rfl
theorem zk4 {f:Nat→Int} {n:Nat} (h:∀ j,j < n→f j=0):zk2 f n=0:=by
 unfold zk2
 split
 · rename_i j hj
   have h1:=List.mem_of_find?_eq_some hj
   exact h j (by simpa using h1)
 · rfl
theorem store_of {l:List Evt} {room:Bytes} (hl:l.length≤2000) (hv:∀ e∈l,yp6 e=0) (hr:∀ e∈l,e.room=room) (hs:l.Pairwise fun a b=>a.id < b.id):yku l=0:=by
 unfold yku
 rw[if_neg (by omega)]
 have h1:zk2 (verAt l) l.length=0:=zk4 fun j hj=>hv _ (zmt hj)
 have h2:zk2 (yge l) l.length=0:=zk4 fun j hj=>by
  unfold yge
  rw[if_pos (by rw[hr _ (zmt hj),hr _ (zmt (by omega))])]
 have h3:zk2 (idAt l) l.length=0:=zk4 fun j hj=>by
  unfold idAt
  rw[if_neg]
  rintro⟨h0,h4⟩
  have:=List.pairwise_iff_getElem.1 hs (j - 1) j (by omega) hj (by omega)
  rw[List.getD_eq_getElem?_getD,List.getD_eq_getElem?_getD,List.getElem?_eq_getElem hj,List.getElem?_eq_getElem (by omega:j - 1 < l.length)]at h4
  simp only[Option.getD_some]at h4
  omega
 rw[if_neg (not_not_intro h1),if_neg (not_not_intro h2),h3]
theorem yj5 {l:List Evt} (hs:l.Pairwise fun a b=>a.id < b.id):(l.map (·.id)).Nodup:=by
 rw[List.Nodup,List.pairwise_map]
 exact hs.imp fun h=>Int.ne_of_lt h
structure SetF (U:List Evt) (room:Bytes) (l:List Evt):Prop where
 inU:∀ e∈l,e∈U
 srt:l.Pairwise fun a b=>a.id < b.id
 ver:∀ e∈l,yp6 e=0
 rm:∀ e∈l,e.room=room
def Apart (U:List Evt):Prop:=∀ a∈U,∀ b∈U,a.id=b.id→Tw a b
theorem SetF.short {U:List Evt} (hU:U.length≤24) {room:Bytes} {l:List Evt} (h:SetF U room l):l.length≤24:=by
 have:=zsp (b:=U.map (·.id)) (yj5 h.srt) fun n hn=>by
  obtain⟨x,hx,rfl⟩:=List.mem_map.1 hn
  exact List.mem_map.2 ⟨x,h.inU x hx,rfl⟩
 simp only[List.length_map]at this
 omega
theorem SetF.fine {U:List Evt} (hU:U.length≤24) {room:Bytes} {l:List Evt} (h:SetF U room l) (hd:zh9 l=0):Fine l :=
 ⟨yj5 h.srt,store_of (by have:=h.short hU;omega) h.ver h.rm h.srt,hd⟩
theorem less_mem {l:List Evt} {id:Int} (hs:l.Pairwise fun a b=>a.id < b.id):(∀ x∈l.takeWhile (fun x=>decide (x.id < id)),x.id < id)∧∀ x∈l.dropWhile (fun x=>decide (x.id < id)),id≤x.id:=by
 induction l with
 | nil=>exact⟨fun x hx=>(by cases hx),fun x hx=>(by cases hx)⟩
 | cons a l ih =>
  rw[List.pairwise_cons]at hs
  rw[List.takeWhile_cons,List.dropWhile_cons]
  by_cases h:a.id < id
  · rw[if_pos (by simpa using h),if_pos (by simpa using h)]
    refine⟨fun x hx=>?_,(ih hs.2).2⟩
    rcases List.mem_cons.1 hx with rfl|hx
    · exact h
    · exact (ih hs.2).1 x hx
  · rw[if_neg (by simpa using h),if_neg (by simpa using h)]
    refine⟨fun x hx=>(by cases hx),fun x hx=>?_⟩
    rcases List.mem_cons.1 hx with rfl|hx
    · omega
    · have:=hs.1 x hx;omega
theorem zz0 {U:List Evt} (hU:U.length≤24) {room:Bytes} {l:List Evt} {e:Evt} (h:SetF U room l) (he:e∈U) (hv:yp6 e=0) (hr:e.room=room) (hn:getE l e.id=none) :
 (putE l e).2=0∧SetF U room (putE l e).1∧∀ x,x∈(putE l e).1↔x∈l∨x=e:=by
 have hany:l.any (fun x=>x.room != e.room)=false:=by
  rw[List.any_eq_false]
  intro x hx
  rw[h.rm x hx,hr];simp
 have hlen:=h.short hU
 unfold putE
 rw[if_neg (by rw[hany];decide),hn]
 simp only
 rw[if_neg (by omega)]
 have hsplit:=List.takeWhile_append_dropWhile (p:=fun x:Evt=>decide (x.id < e.id)) (l:=l)
 have hm:∀ x,x∈l.takeWhile (fun x=>decide (x.id < e.id))++e::l.dropWhile (fun x=>decide (x.id < e.id))↔x∈l∨x=e:=fun x=>by
  rw[List.mem_append,List.mem_cons]
  conv=>rhs;rw[← hsplit,List.mem_append]
  constructor
  · rintro (h|h|h)
    · exact .inl (.inl h)
    · exact .inr h
    · exact .inl (.inr h)
  · rintro ((h|h)|h)
    · exact .inl h
    · exact .inr (.inr h)
    · exact .inr (.inl h)
 refine⟨rfl,⟨fun x hx=>?_,?_,fun x hx=>?_,fun x hx=>?_⟩,hm⟩
 · rcases (hm x).1 hx with h1|rfl
   · exact h.inU x h1
   · exact he
 · obtain⟨h1,h2⟩:=less_mem (id:=e.id) h.srt
   have hs:=h.srt
   rw[← hsplit,List.pairwise_append]at hs
   have hne:∀ x∈l,x.id≠e.id:=fun x hx hxe=>by
    have:=zp2 hx
    unfold zpu at this
    rw[hxe,hn]at this
    cases this
   refine List.pairwise_append.2 ⟨hs.1,List.pairwise_cons.2 ⟨fun x hx=>?_,hs.2.1⟩,fun a ha b hb=>?_⟩
   · have g1:=h2 x hx
     have g2:=hne x ((List.dropWhile_sublist _).subset hx)
     omega
   · rcases List.mem_cons.1 hb with rfl|hb
     · exact h1 a ha
     · exact hs.2.2 a ha b hb
 · rcases (hm x).1 hx with h1|rfl
   · exact h.ver x h1
   · exact hv
 · rcases (hm x).1 hx with h1|rfl
   · exact h.rm x h1
   · exact hr
theorem zz1 {U:List Evt} (hA:Apart U) {room:Bytes} {l:List Evt} {e:Evt} (h:SetF U room l) (he:e∈U) (hv:yp6 e=0) (hr:e.room=room) (hn:(getE l e.id).isSome=true) :
 SetF U room (putE l e).1∧(putE l e).1.map (·.id)=l.map (·.id)∧(putE l e).2=0∧Le l (putE l e).1∧Le (putE l e).1 l∧(∀ x,x.id≠e.id→(x∈(putE l e).1↔x∈l)):=by
 have hany:l.any (fun x=>x.room != e.room)=false:=by
  rw[List.any_eq_false]
  intro x hx
  rw[h.rm x hx,hr];simp
 unfold putE
 rw[if_neg (by rw[hany];decide)]
 cases hg:getE l e.id with
 | none=>rw[hg]at hn;cases hn
 | some x =>
  simp only
  split
  · obtain⟨hf,hi⟩|⟨k,hk,hf,hi,hid⟩:=zmu l e.id
    · rw[hf]at hg;cases hg
    · rw[hi]
      simp only[Int.toNat_natCast]
      have htw:Tw l[k] e:=hA _ (h.inU _ (List.getElem_mem hk)) e he hid
      have hids:(l.set k e).map (·.id)=l.map (·.id):=by
       rw[List.map_set,← hid]
       apply List.ext_getElem?
       intro j
       rw[List.getElem?_set]
       split
       · rename_i hkj
         subst hkj
         simp[hk]
       · rfl
      have hsub:∀ y∈l.set k e,y∈l∨y=e:=fun y hy=>List.mem_or_eq_of_mem_set hy
      have hsrt:(l.set k e).Pairwise fun a b=>a.id < b.id:=by
       have h1:(l.map (·.id)).Pairwise (· < ·):=List.pairwise_map.2 h.srt
       rw[← hids]at h1
       exact List.pairwise_map.1 h1
      have hkeep:∀ y,y.id≠e.id→(y∈l.set k e↔y∈l):=fun y hy=>by
       constructor
       · intro hm
         rcases hsub y hm with h1|rfl
         · exact h1
         · exact absurd rfl hy
       · intro hm
         obtain⟨j,hj,rfl⟩:=List.mem_iff_getElem.1 hm
         have hjk:k≠j:=fun hc=>hy (by subst hc;exact hid)
         have:(l.set k e)[j]'(by simpa using hj)=l[j]:=by rw[List.getElem_set,if_neg hjk]
         rw[← this]
         exact List.getElem_mem _
      refine⟨⟨fun y hy=>?_,hsrt,fun y hy=>?_,fun y hy=>?_⟩,hids,trivial,fun y hy=>?_,fun y hy=>?_,hkeep⟩
      · rcases hsub y hy with h1|rfl
        · exact h.inU y h1
        · exact he
      · rcases hsub y hy with h1|rfl
        · exact h.ver y h1
        · exact hv
      · rcases hsub y hy with h1|rfl
        · exact h.rm y h1
        · exact hr
      · by_cases hy2:y.id=e.id
        · exact⟨e,List.mem_iff_getElem.2 ⟨k,by simpa using hk,by simp⟩,hA y (h.inU y hy) e he hy2⟩
        · exact⟨y,(hkeep y hy2).2 hy,Eq.refl _⟩
      · rcases hsub y hy with h1|rfl
        · exact⟨y,h1,Eq.refl _⟩
        · exact⟨l[k],List.getElem_mem hk,htw.symm'⟩
  · exact⟨h,rfl,trivial,Le.rfl' l,Le.rfl' l,fun x _=>Iff.rfl⟩
end Go.Proofs.YthjmjdleecmaeaaGreat
