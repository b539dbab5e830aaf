/- Several texts of the proof in one: Y1, Y2, Y3. No condition. -/
import Derived.Test.YthjmjdleecmaeaaGreatL37
set_option linter.unusedSimpArgs false
set_option linter.unusedVariables false
set_option maxHeartbeats 4000000
set_option maxRecDepth 8000
namespace Go.Proofs.YthjmjdleecmaeaaGreat
open Go Go.Abs
def Tw (a b:Evt):Prop:=yk4 a=yk4 b
theorem Tw.symm' {a b:Evt} (h:Tw a b):Tw b a:=Eq.symm h
theorem Tw.trans' {a b c:Evt} (h:Tw a b) (g:Tw b c):Tw a c:=Eq.trans h g
theorem yk3 (k:Int) (c:Content):yk1 k (yk1 k c)=yk1 k c:=by
 unfold yk1
 by_cases h1:k=1
 · simp[h1]
 by_cases h2:k=2
 · simp[h2]
 by_cases h3:k=3
 · simp[h3]
 by_cases h4:k=4
 · simp[h4]
 by_cases h5:k=5
 · simp[h5]
 by_cases h6:k=6
 · simp[h6]
 by_cases h7:k=14
 · simp[h7]
 simp[h1,h2,h3,h4,h5,h6,h7]
theorem yld (e:Evt):yk4 (yk4 e)=yk4 e:=by
 unfold yk4
 simp only[yk3]
theorem Tw.eq {a b:Evt} (h:Tw a b):yk4 a=yk4 b:=h
theorem Tw.strip (e:Evt):Tw (yk4 e) e:=yld e
theorem yk7 (e:Evt):(yk4 e).kind=e.kind:=rfl
theorem yk6 (e:Evt):(yk4 e).key=e.key:=rfl
theorem ylb (e:Evt):(yk4 e).room=e.room:=rfl
theorem ylc (e:Evt):(yk4 e).sender=e.sender:=rfl
theorem yla (e:Evt):(yk4 e).prev=e.prev:=rfl
theorem Tw.id {a b:Evt} (h:Tw a b):a.id=b.id:=by have:=congrArg Evt.id h.eq;exact this
theorem Tw.kind {a b:Evt} (h:Tw a b):a.kind=b.kind:=by have:=congrArg Evt.kind h.eq;exact this
theorem Tw.key {a b:Evt} (h:Tw a b):a.key=b.key:=by have:=congrArg Evt.key h.eq;exact this
theorem Tw.room {a b:Evt} (h:Tw a b):a.room=b.room:=by have:=congrArg Evt.room h.eq;exact this
theorem Tw.sender {a b:Evt} (h:Tw a b):a.sender=b.sender:=by have:=congrArg Evt.sender h.eq;exact this
theorem Tw.prev {a b:Evt} (h:Tw a b):a.prev=b.prev:=by have:=congrArg Evt.prev h.eq;exact this
theorem Tw.auth {a b:Evt} (h:Tw a b):a.auth=b.auth:=by have:=congrArg Evt.auth h.eq;exact this
theorem Tw.time {a b:Evt} (h:Tw a b):a.time=b.time:=by have:=congrArg Evt.time h.eq;exact this
theorem Tw.depth {a b:Evt} (h:Tw a b):a.depth=b.depth:=by have:=congrArg Evt.depth h.eq;exact this
theorem yk9 {e:Evt} (h:e.kind=2):(yk4 e).content.n=e.content.n:=by simp[yk4,yk1,h]
theorem strip_n4 {e:Evt} (h:e.kind=4):(yk4 e).content.n=e.content.n:=by simp[yk4,yk1,h]
theorem yk8 {e:Evt} (h:e.kind=3):(yk4 e).content.levels=e.content.levels:=by simp[yk4,yk1,h]
theorem zkw {p:Evt→Bool} (hp:∀ e,p (yk4 e)=p e) (l:List Evt):(l.map yk4).find? p=(l.find? p).map yk4:=by
 rw[List.find?_map]
 congr 1
 congr 1
 funext e
 exact hp e
theorem zdp {p:Evt→Bool} (hp:∀ e,p (yk4 e)=p e) (l:List Evt):(l.map yk4).any p=l.any p:=by
 rw[List.any_map]
 congr 1
 funext e
 exact hp e
theorem zhn (l:List Evt):zhl (l.map yk4)=(zhl l).map yk4:=zkw (fun _=>rfl) l
theorem yi6 (l:List Evt) (u:Bytes):yi4 (l.map yk4) u=yi4 l u:=by
 unfold yi4
 rw[zkw (p:=isMem u) (fun _=>rfl)]
 cases h:l.find? (isMem u) with
 | none=>rfl
 | some e =>
  have:=List.find?_some h
  simp only[isMem,Bool.and_eq_true,beq_iff_eq]at this
  exact yk9 this.1
theorem ygx (l:List Evt):ygw (l.map yk4)=ygw l:=by
 unfold ygw ygv
 rw[zkw (p:=fun e=>e.kind==4) (fun _=>rfl)]
 cases h:l.find? (fun e=>e.kind==4) with
 | none=>rfl
 | some e =>
  have:=List.find?_some h
  simp only[beq_iff_eq]at this
  exact strip_n4 this
theorem cr_strip (l:List Evt):crOf (l.map yk4)=crOf l:=by
 unfold crOf
 rw[zkw (p:=fun e=>e.kind==1) (fun _=>rfl)]
 cases l.find? (fun e=>e.kind==1)<;>rfl
theorem zqz (l:List Evt):lvOf (l.map yk4)=lvOf l:=by
 unfold lvOf
 rw[zkw (p:=fun e=>e.kind==3) (fun _=>rfl),cr_strip]
 cases h:l.find? (fun e=>e.kind==3) with
 | none=>rfl
 | some e =>
  have:=List.find?_some h
  simp only[beq_iff_eq]at this
  exact yk8 this
theorem zlb {e:Evt} (h:e.kind=2) (l:List Evt):zky (yk4 e) (l.map yk4)=zky e l:=by
 unfold zky
 rw[zhn,yk9 h,yla,ylc,yk6,zdp (p:=isMem e.key) (fun _=>rfl)]
 cases zhl l<;>rfl
theorem zvs (m now:Int) (l:List Evt):ownI m now (l.map yk4)=ownI m now l:=by
 unfold ownI
 rw[ygx]
theorem zql (e:Evt) (l:List Evt):zqk (yk4 e) (l.map yk4)=zqk e l:=by
 unfold zqk
 rw[zqz,ylc,yk7]
 split
 · rfl
 · split
   · rename_i h
     rw[yk8 h]
   · rfl
theorem zra {e:Evt} (h:e.kind=2) (l:List Evt):memD (yk4 e) (l.map yk4)=memD e l:=by
 unfold memD
 rw[yk6,ylc,yi6,yi6,yk9 h,zvs,zqz]
theorem zri {e:Evt} (h:e.kind=2) (l:List Evt):zrh (yk4 e) (l.map yk4)=zrh e l:=by
 unfold zrh
 rw[zlb h,zra h]
theorem zcm (e:Evt) (l:List Evt):zcl (yk4 e) (l.map yk4)=zcl e l:=by
 unfold zcl
 rw[zhn,yk7,ylc,ylb,yi6,zql]
 by_cases h:e.kind=2
 · rw[zri h]
   cases zhl l<;>simp
 · rw[if_neg h,if_neg h]
   cases zhl l<;>simp
theorem zcr (e:Evt) (l:List Evt):zcp (yk4 e) (l.map yk4)=zcp e l:=by
 unfold zcp
 rw[zcm]
def Tws (A B:List Evt):Prop:=A.map yk4=B.map yk4
theorem zcs {e e':Evt} {A B:List Evt} (h:Tw e e') (g:Tws A B):zcp e A=zcp e' B:=by
 rw[← zcr e A,← zcr e' B,h,g]
theorem zpn (e:Evt):zpj (yk4 e)=zpj e:=by
 unfold zpj
 rw[yk7,ylc,yk6]
 by_cases h:e.kind=2
 · rw[yk9 h]
 · rw[if_neg h,if_neg h]
theorem zpo {e e':Evt} (h:Tw e e'):zpj e=zpj e':=by rw[← zpn e,← zpn e',h]
theorem zwk (e:Evt):powOf (yk4 e)=powOf e:=by
 unfold powOf
 rw[yk7,ylc,yk6]
 by_cases h:e.kind=2
 · rw[yk9 h]
 · rw[beq_eq_false_iff_ne.2 h];rfl
theorem pow_tw {e e':Evt} (h:Tw e e'):powOf e=powOf e':=by rw[← zwk e,← zwk e',h]
theorem lv_tw {A B:List Evt} (g:Tws A B):lvOf A=lvOf B:=by rw[← zqz A,← zqz B,g]
structure AgrD (D:Int→Bool) (l l':List Evt):Prop where
 get:∀ n,D n=true→∃ e e',getE l n=some e∧getE l' n=some e'∧Tw e e'
 prev:∀ n,D n=true→∀ e,getE l n=some e→∀ m∈e.prev,D m=true
 auth:∀ n,D n=true→∀ e,getE l n=some e→∀ m∈e.auth,D m=true
def InI (D:Int→Bool) (L:List Int):Prop:=∀ n∈L,D n=true
def InS (D:Int→Bool) (s:List EntD):Prop:=∀ x∈s,D x.id=true
variable {D:Int→Bool} {l l':List Evt}
theorem AgrD.symm (h:AgrD D l l'):AgrD D l' l:=by
 refine⟨fun n hn=>?_,fun n hn e he=>?_,fun n hn e he=>?_⟩
 · obtain⟨e,e',h1,h2,h3⟩:=h.get n hn
   exact⟨e',e,h2,h1,h3.symm'⟩
 · obtain⟨e1,e2,h1,h2,h3⟩:=h.get n hn
   rw[h2]at he
   cases he
   rw[← h3.prev]
   exact h.prev n hn e1 h1
 · obtain⟨e1,e2,h1,h2,h3⟩:=h.get n hn
   rw[h2]at he
   cases he
   rw[← h3.auth]
   exact h.auth n hn e1 h1
theorem AgrD.left (h:AgrD D l l'):AgrD D l l:=by
 refine⟨fun n hn=>?_,h.prev,h.auth⟩
 obtain⟨e,e',h1,h2,h3⟩:=h.get n hn
 exact⟨e,e,h1,h1,rfl⟩
theorem AgrD.known (h:AgrD D l l') {n:Int} (hn:D n=true):zpu l n=true:=by
 obtain⟨e,e',h1,h2,h3⟩:=h.get n hn
 unfold zpu
 rw[h1];rfl
theorem AgrD.refs (h:AgrD D l l') {n:Int} (hn:D n=true) {e:Evt} (he:getE l n=some e) (b:Bool):InI D (yf0 b e):=by
 intro m hm
 unfold yf0 at hm
 split at hm
 · exact h.auth n hn e he m hm
 · exact h.prev n hn e he m hm
theorem AgrD.reach (h:AgrD D l l') {b:Bool} {fr:List Int} (hf:InI D fr) {n:Int} (hr:Reach l b fr n):D n=true∧Reach l' b fr n:=by
 induction hr with
 | start hm hk=>exact⟨hf _ hm,.start hm (h.symm.known (hf _ hm))⟩
 | step hr he hn hk ih =>
  obtain⟨hd,hr'⟩:=ih
  obtain⟨e,e',h1,h2,h3⟩:=h.get _ hd
  rw[h1]at he
  cases he
  have hD:=h.refs hd h1 b _ hn
  refine⟨hD,.step hr' h2 ?_ (h.symm.known hD)⟩
  unfold yf0 at hn ⊢
  rw[← h3.prev,← h3.auth]
  exact hn
theorem AgrD.reachOf (h:AgrD D l l') (b:Bool) {fr:List Int} (hf:InI D fr):reachOf l b fr=reachOf l' b fr :=
 yk0 (yjk _).1 (yjk _).1 fun n=>by
  rw[mem_reachOf,mem_reachOf]
  exact⟨fun hr=>(h.reach hf hr).2,fun hr=>(h.symm.reach hf hr).2⟩
theorem zlh {α β:Type} {f g:α→List β}:∀ {L:List α},(∀ x∈L,f x=g x)→L.flatMap f=L.flatMap g
 | [],_=>rfl
 | a::L,h=>by
  rw[List.flatMap_cons,List.flatMap_cons,h a (List.mem_cons_self ..),zlh fun x hx=>h x (List.mem_cons_of_mem _ hx)]
theorem zj7 {α β:Type} {f g:α→Option β}:∀ {L:List α},(∀ x∈L,f x=g x)→L.filterMap f=L.filterMap g
 | [],_=>rfl
 | a::L,h=>by
  rw[List.filterMap_cons,List.filterMap_cons,h a (List.mem_cons_self ..),zj7 fun x hx=>h x (List.mem_cons_of_mem _ hx)]
theorem zj9 {α:Type} {p q:α→Bool}:∀ {L:List α},(∀ x∈L,p x=q x)→L.filter p=L.filter q
 | [],_=>rfl
 | a::L,h=>by
  rw[List.filter_cons,List.filter_cons,h a (List.mem_cons_self ..),zj9 fun x hx=>h x (List.mem_cons_of_mem _ hx)]
theorem zkp {α:Type} {p q:α→Bool}:∀ {L:List α},(∀ x∈L,p x=q x)→L.find? p=L.find? q
 | [],_=>rfl
 | a::L,h=>by
  rw[List.find?_cons,List.find?_cons,h a (List.mem_cons_self ..),zkp fun x hx=>h x (List.mem_cons_of_mem _ hx)]
theorem zca {α:Type} {p q:α→Bool}:∀ {L:List α},(∀ x∈L,p x=q x)→L.all p=L.all q
 | [],_=>rfl
 | a::L,h=>by
  rw[List.all_cons,List.all_cons,h a (List.mem_cons_self ..),zca fun x hx=>h x (List.mem_cons_of_mem _ hx)]
theorem zdn {α:Type} {p q:α→Bool}:∀ {L:List α},(∀ x∈L,p x=q x)→L.any p=L.any q
 | [],_=>rfl
 | a::L,h=>by
  rw[List.any_cons,List.any_cons,h a (List.mem_cons_self ..),zdn fun x hx=>h x (List.mem_cons_of_mem _ hx)]
theorem AgrD.first (h:AgrD D l l') {ids:List Int} (hi:InI D ids):zk7 l ids=zk7 l' ids∧InI D (zk7 l ids):=by
 refine⟨zlh fun n hn=>?_,fun m hm=>?_⟩
 · obtain⟨e,e',h1,h2,h3⟩:=h.get n (hi n hn)
   rw[h1,h2]
   exact h3.auth
 · unfold zk7 at hm
   obtain⟨n,hn,hm⟩:=List.mem_flatMap.1 hm
   obtain⟨e,e',h1,h2,h3⟩:=h.get n (hi n hn)
   rw[h1]at hm
   exact h.auth n (hi n hn) e h1 m hm
theorem AgrD.chain (h:AgrD D l l') {ids:List Int} (hi:InI D ids):zf9 l ids=zf9 l' ids:=by
 unfold zf9
 rw[(h.first hi).1]
 exact h.reachOf true ((h.first hi).1 ▸ (h.first hi).2)
theorem AgrD.chainIn (h:AgrD D l l') {ids:List Int} (hi:InI D ids):InI D (zf9 l ids):=fun n hn =>
 (h.reach (h.first hi).2 (mem_reachOf.1 hn)).1
theorem InS.eids {s:List EntD} (h:InS D s):InI D (eids s):=fun n hn=>by
 obtain⟨x,hx,rfl⟩:=List.mem_map.1 hn
 exact h x hx
theorem AgrD.clos (h:AgrD D l l') {s:List EntD} (hs:InS D s):zgp l s=zgp l' s:=by
 unfold zgp
 rw[h.chain hs.eids]
theorem AgrD.closIn (h:AgrD D l l') {s:List EntD} (hs:InS D s):InI D (zgp l s):=fun n hn=>by
 unfold zgp at hn
 rcases List.mem_append.1 ((yjo _).2 n |>.1 hn) with hn|hn
 · exact hs.eids n hn
 · exact h.chainIn hs.eids n hn
def InSs (D:Int→Bool) (ss:List (List EntD)):Prop:=∀ s∈ss,InS D s
theorem AgrD.seq (h:AgrD D l l') {ss:List (List EntD)} (hs:InSs D ss):seqOf l ss=seqOf l' ss :=
 zlh fun s hx=>h.clos (hs s hx)
theorem AgrD.seqIn (h:AgrD D l l') {ss:List (List EntD)} (hs:InSs D ss):InI D (seqOf l ss):=fun n hn=>by
 obtain⟨s,hx,hn⟩:=List.mem_flatMap.1 hn
 exact h.closIn (hs s hx) n hn
theorem AgrD.full (h:AgrD D l l') {ss:List (List EntD)} (hs:InSs D ss):zmk l ss=zmk l' ss:=by
 unfold zmk zmo zic
 rw[h.seq hs]
theorem AgrD.fullIn (h:AgrD D l l') {ss:List (List EntD)} (hs:InSs D ss):InI D (zmk l ss):=fun n hn=>by
 unfold zmk zmo at hn
 rcases List.mem_append.1 ((yjk _).2 n |>.1 hn) with hn|hn
 · have hn:=(yjk _).2 n |>.1 hn
   unfold idsO at hn
   obtain⟨s,hx,hn⟩:=List.mem_flatMap.1 hn
   unfold idsS at hn
   obtain⟨x,hxx,rfl⟩:=List.mem_map.1 hn
   exact hs s (List.mem_of_mem_take hx) x (List.mem_filter.1 hxx).1
 · unfold zic at hn
   exact h.seqIn hs n (List.mem_filter.1 ((yjk _).2 n |>.1 hn)).1
theorem AgrD.powN (h:AgrD D l l') {n:Int} (hn:D n=true):powN l n=powN l' n:=by
 obtain⟨e,e',h1,h2,h3⟩:=h.get n hn
 rw[zwj h1,zwj h2,pow_tw h3]
theorem AgrD.pset (h:AgrD D l l') {L:List Int} (hL:InI D L):zwx l L=zwx l' L:=by
 unfold zwx
 have h1:L.filter (Go.Proofs.YthjmjdleecmaeaaGreat.powN l)=L.filter (Go.Proofs.YthjmjdleecmaeaaGreat.powN l'):=zj9 fun n hn=>h.powN (hL n hn)
 rw[h1,h.chain fun n hn=>hL n (List.mem_filter.1 hn).1]
theorem AgrD.psetIn (h:AgrD D l l') {L:List Int} (hL:InI D L):InI D (zwx l L):=fun n hn=>hL n (mem_pset.1 hn).1
theorem AgrD.knownL (h:AgrD D l l') {L:List Int} (hL:InI D L):zpx l L=zpx l' L :=
 yk0 (zpy _ _) (zpy _ _) fun n=>by
  rw[mem_knownOf,mem_knownOf]
  constructor
  · exact fun hn=>⟨hn.1,h.symm.known (hL n hn.1)⟩
  · exact fun hn=>⟨hn.1,h.known (hL n hn.1)⟩
theorem zpv {L:List Int} (hL:InI D L):InI D (zpx l L):=fun n hn=>hL n (mem_knownOf.1 hn).1
theorem zq6 {α β γ:Type} (f:β→γ) (g:α→Option β):∀ L:List α,(L.filterMap g).map f=L.filterMap fun a=>(g a).map f
 | []=>rfl
 | a::L=>by
  rw[List.filterMap_cons,List.filterMap_cons]
  cases g a with
  | none=>exact zq6 f g L
  | some b=>simp only[List.map_cons,Option.map_some];rw[zq6 f g L]
theorem AgrD.ofs (h:AgrD D l l') {ids:List Int} (hi:InI D ids):Tws (ids.filterMap (getE l)) (ids.filterMap (getE l')):=by
 unfold Tws
 rw[zq6,zq6]
 refine zj7 fun n hn=>?_
 obtain⟨e,e',h1,h2,h3⟩:=h.get n (hi n hn)
 rw[h1,h2]
 exact congrArg some h3
theorem zmh (A:List Evt) (K:List EntD):(froms A K).map yk4=froms (A.map yk4) K:=by
 unfold froms
 rw[zq6]
 refine zj7 fun k _=>?_
 unfold fromK
 rw[zkw fun _=>rfl]
theorem AgrD.froms (h:AgrD D l l') {e e':Evt} (he:Tw e e') (ha:InI D e.auth):Tws (zmb l e) (zmb l' e'):=by
 unfold zmb Tws
 rw[zmh,zmh,← he.auth,← zpo he]
 have:=h.ofs ha
 unfold Tws at this
 unfold ofIds
 rw[this]
theorem AgrD.sends (h:AgrD D l l') {e e':Evt} (he:Tw e e') (ha:InI D e.auth):yh2 l e=yh2 l' e':=by
 unfold yh2
 rw[lv_tw (h.froms he ha),he.sender]
theorem AgrD.lvN (h:AgrD D l l') {n:Int} (hn:D n=true):lvN l n=lvN l' n:=by
 obtain⟨e,e',h1,h2,h3⟩:=h.get n hn
 unfold Go.Proofs.YthjmjdleecmaeaaGreat.lvN
 rw[h1,h2]
 exact h.sends h3 (h.auth n hn e h1)
theorem AgrD.tmN (h:AgrD D l l') {n:Int} (hn:D n=true):tmN l n=tmN l' n:=by
 obtain⟨e,e',h1,h2,h3⟩:=h.get n hn
 unfold Go.Proofs.YthjmjdleecmaeaaGreat.tmN
 rw[h1,h2]
 exact h3.time
theorem AgrD.prN (h:AgrD D l l') {a b:Int} (ha:D a=true) (hb:D b=true):prN l a b=prN l' a b:=by
 unfold Go.Proofs.YthjmjdleecmaeaaGreat.prN ahN
 rw[h.lvN ha,h.lvN hb,h.tmN ha,h.tmN hb]
theorem AgrD.freeN (h:AgrD D l l') {n:Int} (hn:D n=true) (L:List Int):freeN l L n=freeN l' L n:=by
 unfold Go.Proofs.YthjmjdleecmaeaaGreat.freeN
 rw[h.chain fun m hm=>by rw[List.mem_singleton.1 hm];exact hn]
theorem AgrD.nextN (h:AgrD D l l') {L:List Int} (hL:InI D L):nextN l L=nextN l' L:=by
 unfold Go.Proofs.YthjmjdleecmaeaaGreat.nextN
 refine zkp fun n hn=>?_
 rw[h.freeN (hL n hn)]
 congr 1
 refine zca fun m hm=>?_
 rw[h.freeN (hL m hm),h.prN (hL n hn) (hL m hm)]
theorem AgrD.ordL (h:AgrD D l l'):∀ (d:Nat) {L:List Int},L.length=d→InI D L→ordL l L=ordL l' L:=by
 intro d
 induction d with
 | zero=>intro L hd hL;rw[List.length_eq_zero_iff.1 hd,zu4,zu4]
 | succ d ih =>
  intro L hd hL
  have hn:=h.nextN hL
  cases hx:Go.Proofs.YthjmjdleecmaeaaGreat.nextN l L with
  | none =>
   have hx':Go.Proofs.YthjmjdleecmaeaaGreat.nextN l' L=none:=by rw[← hn];exact hx
   rw[zu6 hx,zu6 hx']
  | some n =>
   have hx':Go.Proofs.YthjmjdleecmaeaaGreat.nextN l' L=some n:=by rw[← hn];exact hx
   rw[zu7 hx,zu7 hx']
   have hm:=zsc hx
   rw[ih (by rw[List.length_erase_of_mem hm,hd];rfl) fun m hm=>hL m (List.mem_of_mem_erase hm)]
end Go.Proofs.YthjmjdleecmaeaaGreat
namespace Go.Proofs.YthjmjdleecmaeaaGreat
open Go Go.Abs
variable {D:Int→Bool} {l l':List Evt}
theorem AgrD.powT (h:AgrD D l l') {n:Int} (hn:D n=true):powT l n=powT l' n:=by
 obtain⟨e,e',h1,h2,h3⟩:=h.get n hn
 unfold Go.Proofs.YthjmjdleecmaeaaGreat.powT
 rw[h1,h2]
 unfold isPow
 simp only
 rw[h3.kind]
theorem AgrD.powE (h:AgrD D l l') {e e':Evt} (he:Tw e e') (ha:InI D e.auth):powE l e=powE l' e':=by
 unfold Go.Proofs.YthjmjdleecmaeaaGreat.powE
 rw[← he.auth]
 exact zkp fun n hn=>h.powT (ha n hn)
theorem powE_in {e:Evt} (ha:InI D e.auth) {n:Int} (hn:powE l e=some n):D n=true:=ha n (List.mem_of_find?_eq_some hn)
def yph (U seen:List Int):Nat:=(U.filter fun n=>!hasJ seen n).length
theorem ypi {U seen:List Int} {id:Int} (hU:id∈U) (hs:hasJ seen id=false):yph U (seen++[id]) < yph U seen:=by
 unfold yph
 have h1:U.filter (fun n=>!hasJ (seen++[id]) n)=(U.filter fun n=>!hasJ seen n).filter fun n=>!(n==id):=by
  rw[List.filter_filter]
  refine zj9 fun n _=>?_
  unfold hasJ
  rw[zhf]
  cases seen.contains n<;>cases (n==id)<;>rfl
 rw[h1]
 have h2:id∈U.filter fun n=>!hasJ seen n:=List.mem_filter.2 ⟨hU,by rw[hs];rfl⟩
 have h3:=List.length_filter_lt_length_iff_exists (p:=fun n=>!(n==id)) (l:=U.filter fun n=>!hasJ seen n)
 exact h3.2 ⟨id,h2,by simp⟩
theorem yq9 (l:List Evt) {seen:List Int} {id:Int} (h:hasJ seen id=true):∀ n,wayF l n seen id=[]
 | 0=>rfl
 | n+1=>by unfold wayF;rw[if_pos h]
theorem AgrD.wayF (h:AgrD D l l') {U:List Int} (hU:∀ n,D n=true→n∈U):∀ (n n':Nat) (seen:List Int) (id:Int),D id=true→yph U seen≤n→yph U seen≤n'→wayF l n seen id=wayF l' n' seen id:=by
 intro n
 induction n with
 | zero =>
  intro n' seen id hd h1 h2
  cases hs:hasJ seen id with
  | true=>rw[yq9 l hs,yq9 l' hs]
  | false=>have:=ypi (hU id hd) hs;omega
 | succ n ih =>
  intro n' seen id hd h1 h2
  cases hs:hasJ seen id with
  | true=>rw[yq9 l hs,yq9 l' hs]
  | false =>
   have hu:=ypi (hU id hd) hs
   cases n' with
   | zero=>omega
   | succ n' =>
    obtain⟨e,e',g1,g2,g3⟩:=h.get id hd
    unfold Go.Proofs.YthjmjdleecmaeaaGreat.wayF
    rw[hs,g1,g2]
    simp only[Bool.false_eq_true,if_false]
    rw[← h.powE g3 (h.auth id hd e g1)]
    cases hp:Go.Proofs.YthjmjdleecmaeaaGreat.powE l e with
    | none=>rfl
    | some x =>
     simp only
     rw[ih n' (seen++[id]) x (powE_in (h.auth id hd e g1) hp) (by omega) (by omega)]
theorem zmv {l:List Evt} {n:Int} {e:Evt} (h:getE l n=some e):n∈l.map (·.id):=by
 have h1:=List.find?_some h
 simp only[beq_iff_eq]at h1
 exact List.mem_map.2 ⟨e,List.mem_of_find?_eq_some h,h1⟩
theorem AgrD.wayOf (h:AgrD D l l') {id:Int} (hd:D id=true):wayOf l id=wayOf l' id:=by
 obtain⟨U,hU⟩:∃ U,U=yjh ((l.map (·.id)).filter D):=⟨_,rfl⟩
 have hm:∀ n,n∈U↔n∈l.map (·.id)∧D n=true:=fun n=>by rw[hU,(yjk _).2,List.mem_filter]
 have hnd:U.Nodup:=by rw[hU];exact (yjk _).1.imp fun h=>Int.ne_of_lt h
 have hle:yph U []≤U.length:=List.length_filter_le _ _
 have h1:U.length≤l.length:=by
  have:=zsp (b:=l.map (·.id)) hnd fun n hn=>((hm n).1 hn).1
  simpa using this
 have h2:U.length≤l'.length:=by
  have:=zsp (b:=l'.map (·.id)) hnd fun n hn=>by
   obtain⟨e,e',g1,g2,g3⟩:=h.get n ((hm n).1 hn).2
   exact zmv g2
  simpa using this
 unfold Go.Proofs.YthjmjdleecmaeaaGreat.wayOf
 refine h.wayF (U:=U) (fun n hn=>?_) _ _ [] id hd (by omega) (by omega)
 obtain⟨e,e',g1,g2,g3⟩:=h.get n hn
 exact (hm n).2 ⟨zmv g1,hn⟩
theorem AgrD.order2 (h:AgrD D l l') (main:List Int) {ids:List Int} (hi:InI D ids):order2 l main ids=order2 l' main ids:=by
 have:zo1 l main ids=zo1 l' main ids:=by
  unfold zo1
  refine zj7 fun n hn=>?_
  obtain⟨e,e',g1,g2,g3⟩:=h.get n (hi n hn)
  unfold zo0 zgs
  rw[g1,g2,h.wayOf (hi n hn)]
  simp only[Option.map_some,g3.time]
 unfold Go.Proofs.YthjmjdleecmaeaaGreat.order2
 rw[this]
theorem zmx {s:List EntD} (hs:InS D s) {k:Int} {key:Bytes} {id:Int} (h:getOf s k key=some id):D id=true:=by
 unfold getOf at h
 split at h
 · obtain⟨x,hx,rfl⟩:=Option.map_eq_some_iff.1 h
   exact hs x (List.mem_of_getElem? hx)
 · cases h
theorem yik {s:List EntD} (hs:InS D s) (k:Int) (key:Bytes) {id:Int} (hd:D id=true):InS D (setOf s k key id):=by
 intro x hx
 unfold setOf at hx
 rcases List.mem_append.1 hx with hx|hx
 · exact hs x (List.mem_of_mem_take hx)
 · rcases List.mem_cons.1 hx with rfl|hx
   · exact hd
   · exact hs x (List.mem_of_mem_drop hx)
theorem AgrD.base (h:AgrD D l l') {s:List EntD} (hs:InS D s) {e e':Evt} (he:Tw e e') (ha:InI D e.auth):Tws (zeb l s e) (zeb l' s e'):=by
 unfold Tws zeb zef
 rw[zq6,zq6,← zpo he,← he.auth]
 refine zj7 fun k _=>?_
 unfold baseK
 cases hg:getOf s k.kind k.key with
 | some id =>
  obtain⟨a,a',g1,g2,g3⟩:=h.get id (zmx hs hg)
  simp only
  rw[g1,g2]
  exact congrArg some g3
 | none =>
  simp only
  unfold findK
  rw[← zkw fun _=>rfl,← zkw fun _=>rfl]
  have:=h.ofs ha
  unfold Tws at this
  unfold zsz
  rw[this]
theorem AgrD.step (h:AgrD D l l') {s:List EntD} (hs:InS D s) {id:Int} (hd:D id=true):yko l s id=yko l' s id∧InS D (yko l s id):=by
 obtain⟨e,e',g1,g2,g3⟩:=h.get id hd
 have ha:=zcs g3 (h.base hs g3 (h.auth id hd e g1))
 have hid:e.id=id:=by have:=List.find?_some g1;simpa using this
 unfold yko setD
 rw[g1,g2]
 simp only
 rw[← ha,← g3.kind,← g3.key,← g3.id]
 refine⟨rfl,?_⟩
 split
 · exact hs
 · split
   · exact hs
   · exact yik hs _ _ (by rw[hid];exact hd)
theorem AgrD.apply (h:AgrD D l l'):∀ {ids:List Int} {s:List EntD},InS D s→InI D ids→zd0 l s ids=zd0 l' s ids∧InS D (zd0 l s ids)
 | [],s,hs,_=>⟨rfl,hs⟩
 | x::ids,s,hs,hi=>by
  obtain⟨h1,h2⟩:=h.step hs (hi x (List.mem_cons_self ..))
  have:=AgrD.apply h (ids:=ids) h2 fun n hn=>hi n (List.mem_cons_of_mem _ hn)
  unfold zd0 at this ⊢
  rw[List.foldl_cons,List.foldl_cons,← h1]
  exact this
theorem zbx {ss:List (List EntD)} (hs:InSs D ss):InS D (zbw ss):=by
 unfold zbw sameO
 split
 · intro x hx;cases hx
 · intro x hx
   have hx:=(List.mem_filter.1 hx).1
   cases ss with
   | nil=>cases hx
   | cons s ss=>exact hs s (List.mem_cons_self ..) x hx
theorem yip:∀ {d:List EntD} {s:List EntD},InS D s→InS D d→InS D (yio s d)
 | [],s,hs,_=>hs
 | x::d,s,hs,hd=>by
  unfold yio
  rw[List.foldl_cons]
  exact yip (yik hs _ _ (hd x (List.mem_cons_self ..))) fun y hy=>hd y (List.mem_cons_of_mem _ hy)
theorem AgrD.porder (h:AgrD D l l') {ss:List (List EntD)} (hs:InSs D ss):zwf l ss=zwf l' ss∧InI D (zwf l ss):=by
 unfold zwf zwl
 rw[← h.full hs,← h.pset (h.fullIn hs),← h.knownL (h.psetIn (h.fullIn hs)),← h.ordL _ rfl (zpv (h.psetIn (h.fullIn hs)))]
 exact⟨rfl,fun n hn=>zpv (h.psetIn (h.fullIn hs)) n (zu3 hn)⟩
theorem AgrD.mid (h:AgrD D l l') {ss:List (List EntD)} (hs:InSs D ss):midOf l ss=midOf l' ss∧InS D (midOf l ss):=by
 unfold midOf
 rw[← (h.porder hs).1]
 exact h.apply (zbx hs) (h.porder hs).2
theorem AgrD.main (h:AgrD D l l') {s:List EntD} (hs:InS D s):zq2 l s=zq2 l' s:=by
 unfold zq2
 cases hg:getOf s 3 [] with
 | none=>rfl
 | some id=>exact h.wayOf (zmx hs hg)
theorem zrs {a b:List Int} (ha:InI D a):InI D (zrq a b):=fun n hn=>by
 unfold zrq at hn
 exact ha n ((yjk _).2 n |>.1 (List.mem_filter.1 hn).1)
theorem zg6 {L:List Item} {x:Item}:∀ n,x∈compU L n→x∈L:=by
 intro n
 induction n with
 | zero=>intro h;cases h
 | succ n ih =>
  intro h
  unfold compU at h
  split at h
  · exact ih h
  · rcases List.mem_append.1 h with h|h
    · exact ih h
    · rw[Option.mem_toList]at h
      exact List.mem_of_getElem? h
theorem zva {main ids:List Int} (hi:InI D ids):InI D (order2 l main ids):=fun n hn=>by
 unfold order2 at hn
 obtain⟨x,hx,rfl⟩:=List.mem_map.1 hn
 have hx:=zg6 _ hx
 unfold yjg at hx
 rw[List.mem_mergeSort]at hx
 unfold zo1 at hx
 obtain⟨m,hm,hx⟩:=List.mem_filterMap.1 hx
 unfold zo0 at hx
 obtain⟨e,_,rfl⟩:=Option.map_eq_some_iff.1 hx
 exact hi m hm
theorem AgrD.settle (h:AgrD D l l') {ss:List (List EntD)} (hs:InSs D ss):yiu l ss=yiu l' ss∧InS D (yiu l ss):=by
 have hp:zwl l ss=zwl l' ss:=by
  unfold zwl
  rw[← h.full hs,h.pset (h.fullIn hs)]
 have ho:zvi l ss=zvi l' ss∧InI D (zvi l ss):=by
  unfold zvi
  rw[← (h.mid hs).1,← h.main (h.mid hs).2,← hp,← h.full hs,← h.order2 _ (zrs (h.fullIn hs))]
  exact⟨rfl,zva (zrs (h.fullIn hs))⟩
 unfold yiu
 rw[← (h.mid hs).1,← ho.1,← (h.apply (h.mid hs).2 ho.2).1]
 exact⟨rfl,yip (h.apply (h.mid hs).2 ho.2).2 (zbx hs)⟩
theorem AgrD.resolve (h:AgrD D l l') {ss:List (List EntD)} (hs:InSs D ss):yf4 l ss=yf4 l' ss∧InS D (yf4 l ss):=by
 unfold yf4
 split
 · exact⟨rfl,fun x hx=>by cases hx⟩
 · exact⟨rfl,hs _ (List.mem_cons_self ..)⟩
 · exact h.settle hs
end Go.Proofs.YthjmjdleecmaeaaGreat
