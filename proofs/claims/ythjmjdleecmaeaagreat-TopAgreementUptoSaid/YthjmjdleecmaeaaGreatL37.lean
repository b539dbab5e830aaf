/- Several texts of the proof in one: B31, B32, B33, B34, B35. No condition. -/
import Derived.Test.YthjmjdleecmaeaaGreatL36
set_option linter.unusedSimpArgs false
set_option linter.unusedVariables false
set_option maxHeartbeats 4000000
set_option maxRecDepth 8000
namespace Go.Proofs.YthjmjdleecmaeaaGreat
open Go Go.Abs Go.Proofs.Tryz
theorem tPtrT:tPtr prog 63=true:=by kernel_rfl
attribute [go_sem] tPtrT
def stI (p:List EntD×Int):AV:=.tup [ents p.1,I p.2]
theorem zxv (p:List EntD×Int):PureR (stI p):=by
 intro r hr
 simp only[List.mem_cons,List.not_mem_nil,or_false]at hr
 rcases hr with rfl|rfl
 · exact zye _
 · exact zx1 _
def hasT (o:Option Tab) (id:Int):Bool:=match o with
 | none=>false
 | some t=>(t.errs id).isSome
theorem errA_has (er:Int→Option Int) (n:Int):hasM (errA er) n=(er n).isSome:=by
 unfold hasM errA
 cases er n<;>rfl
theorem znd (o:Option Tab) (id:Int):AC prog 16 [runAV o,I id] (B (hasT o id)):=by
 refine AC.ob func16 ntmps16 results16 (zzj (zzc _) (zx1 _)) (zx0 _) fun w S'=>AWp.of_vc [] ?_
 cases o with
 | none =>
  simp[go_sem,runAV]
  refine PostR.ret ?_
  simp[go_sem,hasT]
 | some t =>
  have h1:=errA_has t.errs id
  simp[go_sem,runAV,tabC,zErr,h1]
  refine PostR.ret ?_
  simp[go_sem,hasT]
def ykk (t:Tab) (id:Int):Int:=if errOf t.errs id=0 then 4 else 2
theorem ykl (t:Tab) (id:Int):AC prog 81 [.eptr (tabC t) 0,I id] (I (ykk t id)):=by
 refine AC.ob func81 ntmps81 results81 (zzj (zyf (zzg t)) (zx1 _)) (zx1 _) fun w S'=>AWp.of_vc [] ?_
 have hget:=zi5 t.errs id
 unfold ykk
 generalize errOf t.errs id=v at hget ⊢
 by_cases c:v=0
 · rw[c]at hget
   simp[go_sem,tabC,zErr,hget,c]
   exact rets
 · have g1:(v != 0)=true:=bne_iff_ne.2 c
   simp[go_sem,tabC,zErr,hget,c,g1]
   exact rets
def okB (t:Tab) (id:Int):Bool:=errOf t.errs id==0
theorem accC_ac (t:Tab) (id:Int):AC prog 142 [I id,.eptr [.eptr (tabC t) 0] 0] (B (okB t id)):=by
 refine AC.ob func142 ntmps142 results142 (zzj (zx1 _) (zyf fun c h=>by simp only[List.mem_singleton]at h;subst h;exact zyf (zzg t))) (zx0 _) fun w S'=>AWp.of_vc [] ?_
 have hget:=zi5 t.errs id
 unfold okB
 generalize errOf t.errs id=v at hget ⊢
 by_cases c:v=0
 · rw[c]at hget
   simp[go_sem,tabC,zErr,hget,c]
   exact rets
 · have g1:(v==0)=false:=beq_eq_false_iff_ne.2 c
   simp[go_sem,tabC,zErr,hget,c,g1]
   exact rets
def pickL (l:List Evt) (p:Int→Bool):List Int:=(l.filter fun e=>p e.id).map (·.id)
theorem zv0 {l:List Evt} {p:Int→Bool} {q:Nat} (h:q < l.length):pickL (l.take (q+1)) p=pickL (l.take q) p++(if p l[q].id=true then [l[q].id] else []):=by
 unfold pickL
 rw[List.take_succ_eq_append_getElem h,List.filter_append,List.map_append]
 congr 1
 by_cases hp:p l[q].id=true
 · simp[hp]
 · simp[hp]
theorem zvz (l:List Evt) (p:Int→Bool):(pickL l p).length≤l.length:=by
 unfold pickL
 rw[List.length_map]
 exact List.length_filter_le _ _
theorem pick_ac (l:List Evt) (f:FuncId) (cap:List AV) (p:Int→Bool) (hp:∀ n,AC prog f (I n::cap) (B (p n))) (hcap:∀ c∈cap,Pure c) (hsz:l.length≤1000000):AC prog 141 [evs l,.fn (.func f) [] cap] (ints (pickL l p)):=by
 refine AC.ob func141 ntmps141 results141 (zzj (zyk _) (zx8 hcap)) (zxe _) fun w S'=>AWp.of_vc [] ?_
 simp[go_sem]
 refine AWp.ownNil 5 3 1 (by simp[go_sem]) ?_
 refine AWp.loop_vc [] (fun m s=>∃ q w:Nat,q≤l.length∧m=l.length - q∧s.σ 0=evs l∧s.σ 1=.fn (.func f) [] cap∧s.σ 8=I l.length∧s.σ 9=I q∧s.σ 5=.ref 5 w∧s.ver 5=w∧s.h 5=.arr 3 1 ((pickL (l.take q) p).map I)) l.length ⟨0,by simp[go_sem,pickL]⟩ ?_
 rintro m s ⟨q,w,hq,rfl,i0,i1,i8,i9,i5,jv,jh⟩
 have hws:IntKind.i64.wrap ((q:Int)+1)=(q:Int)+1:=wrapB (by omega) (by omega)
 by_cases hlt:q < l.length
 · have hsu:=zv0 (p:=p) hlt
   obtain⟨x,hx⟩:∃ x,l[q]=x:=⟨_,rfl⟩
   rw[hx]at hsu
   have hpl:=zvz (l.take q) p
   rw[List.length_take]at hpl
   simp[go_sem,i0,i1,i8,i9,i5,jv,jh,hlt,hx]
   refine cpu (hp x.id) ?_
   cases hpx:p x.id with
   | true =>
    rw[if_pos hpx]at hsu
    simp[go_sem,i0,i1,i8,i9,i5,jv,jh,hlt,hx,hws]
    refine⟨by omega,l.length - (q+1),by omega,q+1,by omega,rfl,by omega,?_⟩
    rw[hsu]
    simp
    rfl
   | false =>
    rw[if_neg (by rw[hpx];decide)]at hsu
    simp[go_sem,i0,i1,i8,i9,i5,jv,jh,hlt,hx,hws]
    refine⟨l.length - (q+1),by omega,q+1,by omega,rfl,by omega,?_⟩
    rw[hsu]
    simp
 · have htk:l.take q=l:=List.take_of_length_le (by omega)
   rw[htk]at jh
   simp[go_sem,i0,i1,i8,i9,i5,jv,jh,hlt]
   refine PostR.retW [5] (r0:=ints (pickL l p)) (by simp[go_sem,i5,jv,jh]) (.refl _)
def accT (t:Tab) (l:List Evt):List Int:=pickL l (okB t)
theorem acc_ac (t:Tab) (l:List Evt) (hsz:l.length≤1000000):AC prog 93 [.eptr (tabC t) 0,evs l] (ints (accT t l)):=by
 refine AC.ob func93 ntmps93 results93 (zzj (zyf (zzg t)) (zyk _)) (zxe _) fun w S'=>AWp.of_vc [] ?_
 simp[go_sem]
 refine cpu (pick_ac l 142 [.eptr [.eptr (tabC t) 0] 0] (okB t) (fun n=>accC_ac t n) (fun c h=>by simp only[List.mem_singleton]at h;subst h;exact zyf fun c h=>by simp only[List.mem_singleton]at h;subst h;exact zyf (zzg t)) hsz) ?_
 simp[go_sem]
 refine PostR.ret ?_
 simp[go_sem,accT]
noncomputable def atS (l:List Evt) (id:Int):List EntD×Int:=match runT l with
 | none=>([],0)
 | some t=>if (t.errs id).isSome=true then ((t.before id).getD [],ykk t id) else ([],0)
theorem at_ac2 (l:List Evt) (id:Int) (hl:Good l):AC prog 49 [evs l,I id] (stI (atS l id)):=by
 refine AC.ob func49 ntmps49 results49 (zzj (zyk _) (zx1 _)) (zxv _) fun w S'=>AWp.of_vc [] ?_
 obtain⟨p,hp⟩:∃ p,atS l id=p:=⟨_,rfl⟩
 rw[hp]
 unfold atS at hp
 simp[go_sem]
 refine cpu (yg0 l hl) ?_
 cases hr:runT l with
 | none =>
  rw[hr]at hp
  simp only at hp
  rw[← hp]
  simp[go_sem,runAV]
  refine cpu (znd none id) ?_
  simp[go_sem,hasT]
  refine PostR.retW [] (r0:=.tup [.v (.slice none 0 0),I 0]) (by simp[go_sem]) ?_
  exact .tup ⟨.one (.nil _),.refl _,trivial⟩
 | some t =>
  rw[hr]at hp
  simp only at hp
  simp[go_sem,runAV]
  refine CallSem.pure (znd (some t) id) (by simp[go_sem,runAV]) ?_
  cases he:(t.errs id).isSome with
  | false =>
   rw[if_neg (by rw[he];decide)]at hp
   rw[← hp]
   simp[go_sem,hasT,he]
   refine PostR.retW [] (r0:=.tup [.v (.slice none 0 0),I 0]) (by simp[go_sem]) ?_
   exact .tup ⟨.one (.nil _),.refl _,trivial⟩
  | true =>
   rw[if_pos he]at hp
   rw[← hp]
   have hget:=yj8 t.before id
   simp[go_sem,hasT,he]
   refine da ?_
   simp[go_sem,tabC,yrr,hget]
   refine CalmThen.pure (ykl t id) rfl ?_
   simp[go_sem]
   refine PostR.ret ?_
   simp[go_sem,stI]
noncomputable def whyI (l:List Evt) (id:Int):Int:=match runT l with
 | none=>5
 | some t=>if (t.errs id).isSome=true then errOf t.errs id else 5
theorem why_ac (l:List Evt) (id:Int) (hl:Good l):AC prog 10 [evs l,I id] (I (whyI l id)):=by
 refine AC.ob func10 ntmps10 results10 (zzj (zyk _) (zx1 _)) (zx1 _) fun w S'=>AWp.of_vc [] ?_
 obtain⟨p,hp⟩:∃ p,whyI l id=p:=⟨_,rfl⟩
 rw[hp]
 unfold whyI at hp
 simp[go_sem]
 refine cpu (yg0 l hl) ?_
 cases hr:runT l with
 | none =>
  rw[hr]at hp
  simp only at hp
  rw[← hp]
  simp[go_sem,runAV]
  refine cpu (znd none id) ?_
  simp[go_sem,hasT]
  exact rets
 | some t =>
  rw[hr]at hp
  simp only at hp
  simp[go_sem,runAV]
  refine CallSem.pure (znd (some t) id) (by simp[go_sem,runAV]) ?_
  cases he:(t.errs id).isSome with
  | false =>
   rw[if_neg (by rw[he];decide)]at hp
   rw[← hp]
   simp[go_sem,hasT,he]
   exact rets
  | true =>
   rw[if_pos he]at hp
   rw[← hp]
   have hget:=zi5 t.errs id
   simp[go_sem,hasT,he,tabC,zErr,hget]
   exact rets
noncomputable def zbh (l:List Evt):List Int:=match runT l with
 | none=>[]
 | some t=>accT t l
theorem zbi (l:List Evt) (hl:Good l):AC prog 92 [evs l] (ints (zbh l)):=by
 refine AC.ob func92 ntmps92 results92 (zzi (zyk _)) (zxe _) fun w S'=>AWp.of_vc [] ?_
 have hll:=hl.fit.len
 obtain⟨p,hp⟩:∃ p,zbh l=p:=⟨_,rfl⟩
 rw[hp]
 unfold zbh at hp
 simp[go_sem]
 refine cpu (yg0 l hl) ?_
 cases hr:runT l with
 | none =>
  rw[hr]at hp
  simp only at hp
  rw[← hp]
  simp[go_sem,runAV]
  refine PostR.retW [] (r0:=.v (.slice none 0 0)) (by simp[go_sem]) (.nil _)
 | some t =>
  rw[hr]at hp
  simp only at hp
  rw[← hp]
  simp[go_sem,runAV]
  refine cpu (acc_ac t l (by omega)) ?_
  simp[go_sem]
  exact rets
theorem znj (l:List Evt) (ids:List Int):(headsOf l ids).length≤ids.length:=by
 unfold headsOf
 exact Nat.le_trans (yjn _) (List.length_filter_le _ _)
theorem zbg (t:Tab) (l:List Evt):(accT t l).length≤l.length:=zvz _ _
theorem ygz {l:List Evt} {t:Tab} (h:runT l=some t):TabOk l t:=by
 unfold runT at h
 by_cases c1:yku l=0
 case neg=>rw[if_pos c1]at h;cases h
 rw[if_neg (not_not_intro c1)]at h
 by_cases c2:zh9 l=0
 case neg=>rw[if_pos c2]at h;cases h
 rw[if_neg (not_not_intro c2)]at h
 cases h
 exact yok l _
theorem ykf {l:List Evt} {t:Tab} (h:TabOk l t) (n:Int):StOk l (yke t n):=by
 unfold yke
 cases hn:t.after n with
 | none=>exact .nil l
 | some s=>exact h.after n s hn
noncomputable def zhp (l:List Evt):List EntD:=match runT l with
 | none=>[]
 | some t=>yf4 l ((headsOf l (accT t l)).map (yke t))
theorem zhr (l:List Evt):StOk l (zhp l):=by
 unfold zhp
 split
 · exact .nil l
 · rename_i t ht
   refine yf6 fun s hs=>?_
   obtain⟨n,_,rfl⟩:=List.mem_map.1 hs
   exact ykf (ygz ht) n
theorem zhq (l:List Evt) (hl:Good l):AC prog 54 [evs l] (ents (zhp l)):=by
 refine AC.ob func54 ntmps54 results54 (zzi (zyk _)) (zw3 _) fun w S'=>AWp.of_vc [1000010] ?_
 have hll:=hl.fit.len
 obtain⟨p,hp⟩:∃ p,zhp l=p:=⟨_,rfl⟩
 rw[hp]
 unfold zhp at hp
 simp[go_sem]
 refine cpu (yg0 l hl) ?_
 cases hr:runT l with
 | none =>
  rw[hr]at hp
  simp only at hp
  rw[← hp]
  simp[go_sem,runAV]
  refine PostR.retW [] (r0:=.v (.slice none 0 0)) (by simp[go_sem]) (.nil _)
 | some t =>
  rw[hr]at hp
  simp only at hp
  have hat:=zbg t l
  have hhl:=znj l (accT t l)
  simp[go_sem,runAV]
  refine cpu (acc_ac t l (by omega)) ?_
  simp[go_sem]
  refine cpu (zni l (accT t l) hl.fit (by omega)) ?_
  obtain⟨H,hH⟩:∃ H,headsOf l (accT t l)=H:=⟨_,rfl⟩
  rw[hH]at hhl hp ⊢
  simp[go_sem]
  refine AWp.ownNil 4 28 1 (by simp[go_sem]) ?_
  obtain⟨Z,hZ⟩:∃ Z,(H.map (yke t)).map ents=Z:=⟨_,rfl⟩
  have hZl:Z.length=H.length:=by rw[← hZ];simp
  have hZs:∀ q,(h:q < H.length)→Z.take (q+1)=Z.take q++[ents (yke t H[q])]:=fun q h=>by
   rw[List.take_succ_eq_append_getElem (by omega)]
   congr 1
   simp[← hZ]
  refine AWp.loop_vc [1000010] (fun m s=>∃ q w:Nat,q≤H.length∧m=H.length - q∧s.σ 0=evs l∧s.σ 3=.eptr (tabC t) 0∧s.σ 15=ints H∧s.σ 16=I H.length∧s.σ 17=I q∧s.σ 4=.ref 4 w∧s.ver 4=w∧s.h 4=.arr 28 1 (Z.take q)) H.length ⟨0,by simp[go_sem]⟩ ?_
  rintro m s ⟨q,w,hq,rfl,i0,i3,i15,i16,i17,i4,jv,jh⟩
  have hws:IntKind.i64.wrap ((q:Int)+1)=(q:Int)+1:=wrapB (by omega) (by omega)
  by_cases hlt:q < H.length
  · have hsu:=hZs q hlt
    obtain⟨x,hx⟩:∃ x,H[q]=x:=⟨_,rfl⟩
    rw[hx]at hsu
    have hbl:(Z.take q).length=q:=by rw[List.length_take];omega
    have hget:=yj8 t.after x
    simp[go_sem,i0,i3,i15,i16,i17,i4,jv,jh,hlt,hx,tabC,yrr,hget,hws,-List.length_take]
    rw[hbl]
    refine⟨⟨by omega,by omega⟩,H.length - (q+1),by omega,q+1,by omega,rfl,by omega,?_⟩
    rw[hsu]
    rfl
  · have htk:Z.take q=Z:=List.take_of_length_le (by omega)
    rw[htk]at jh
    simp[go_sem,i0,i3,i15,i16,i17,i4,jv,jh,hlt]
    refine AWp.freeze 4 ?_
    refine AWp.of_vc [] ?_
    have hrac:=yf5 l (H.map (yke t)) hl (by rw[List.length_map];omega) (fun s hs=>by
     obtain⟨n,_,rfl⟩:=List.mem_map.1 hs
     exact ykf (ygz hr) n)
    unfold ykh at hrac
    rw[hZ,hp]at hrac
    simp[go_sem,i0,i4,jv,jh]
    refine cpu hrac ?_
    simp[go_sem]
    exact rets
def ykm (o:Option Tab) (l:List Evt):List Int:=match o with
 | none=>[]
 | some t=>l.map fun e=>ykk t e.id
theorem ykn (l:List Evt) (hl:Good l):AC prog 80 [evs l] (ints (ykm (runT l) l)):=by
 refine AC.ob func80 ntmps80 results80 (zzi (zyk _)) (zxe _) fun w S'=>AWp.of_vc [] ?_
 have hll:=hl.fit.len
 simp[go_sem]
 refine cpu (yg0 l hl) ?_
 cases hr:runT l with
 | none =>
  simp[go_sem,runAV,ykm]
  refine PostR.retW [] (r0:=.v (.slice none 0 0)) (by simp[go_sem]) (.nil _)
 | some t =>
  obtain⟨Z,hZ⟩:∃ Z,(l.map fun e=>ykk t e.id)=Z:=⟨_,rfl⟩
  have hZl:Z.length=l.length:=by rw[← hZ];simp
  have hZs:∀ q,(h:q < l.length)→Z.take (q+1)=Z.take q++[ykk t l[q].id]:=fun q h=>by
   rw[List.take_succ_eq_append_getElem (by omega)]
   congr 1
   simp[← hZ]
  have hst:ykm (some t) l=Z:=hZ
  rw[hst]
  simp[go_sem,runAV]
  refine AWp.ownNil 4 46 1 (by simp[go_sem]) ?_
  refine AWp.loop_vc [] (fun m s=>∃ q w:Nat,q≤l.length∧m=l.length - q∧s.σ 0=evs l∧s.σ 3=.eptr (tabC t) 0∧s.σ 11=I l.length∧s.σ 12=I q∧s.σ 4=.ref 4 w∧s.ver 4=w∧s.h 4=.arr 46 1 ((Z.take q).map I)) l.length ⟨0,by simp[go_sem]⟩ ?_
  rintro m s ⟨q,w,hq,rfl,i0,i3,i11,i12,i4,jv,jh⟩
  have hws:IntKind.i64.wrap ((q:Int)+1)=(q:Int)+1:=wrapB (by omega) (by omega)
  by_cases hlt:q < l.length
  · have hsu:=hZs q hlt
    obtain⟨x,hx⟩:∃ x,l[q]=x:=⟨_,rfl⟩
    rw[hx]at hsu
    have hbl:(Z.take q).length=q:=by rw[List.length_take];omega
    obtain⟨Zq,hZq⟩:∃ Zq,Z.take q=Zq:=⟨_,rfl⟩
    rw[hZq]at jh hsu hbl
    simp[go_sem,i0,i3,i11,i12,i4,jv,jh,hlt,hx]
    refine cpu (ykl t x.id) ?_
    simp[go_sem,i0,i3,i11,i12,i4,jv,jh,hlt,hx,hws]
    refine⟨by omega,l.length - (q+1),by omega,q+1,by omega,rfl,by omega,?_⟩
    rw[← List.map_take,hsu]
    simp
    rfl
  · have htk:Z.take q=Z:=List.take_of_length_le (by omega)
    rw[htk]at jh
    simp[go_sem,i0,i3,i11,i12,i4,jv,jh,hlt]
    refine PostR.retW [4] (r0:=ints Z) (by simp[go_sem,i4,jv,jh]) (.refl _)
structure RowD where
 pos:Int
 id:Int
 status:Int
 gone:Bool
structure RoomD where
 id:Bytes
 events:List Evt
 rows:List RowD
 waiting:List Evt
 heads:List Int
 state:List EntD
 next:Int
def rowC (r:RowD):List AV:=[I r.pos,I r.id,I r.status,B r.gone]
def rowsA (l:List RowD):AV:=.lst 4 (l.map fun r=>.agg (rowC r))
def roomC (r:RoomD):List AV:=[S r.id,evs r.events,rowsA r.rows,evs r.waiting,ints r.heads,ents r.state,I r.next,.lst 1 [],.lst 1 []]
theorem zza (r:RowD):∀ c∈rowC r,Pure c:=fun c hc=>by
 simp only[rowC,List.mem_cons,List.not_mem_nil,or_false]at hc
 rcases hc with rfl|rfl|rfl|rfl<;>exact zzh _
theorem zzb (l:List RowD):Pure (rowsA l):=zyx zza
theorem zy5:Pure (.lst 1 []):=zyw fun x hx=>by cases hx
theorem zy9 (r:RoomD):∀ c∈roomC r,Pure c:=fun c hc=>by
 simp only[roomC,List.mem_cons,List.not_mem_nil,or_false]at hc
 rcases hc with rfl|rfl|rfl|rfl|rfl|rfl|rfl|rfl|rfl <;>
  first|exact zzh _|exact zyk _|exact zzb _|exact zyr _|exact zye _|exact zy5
def room (r:RoomD):AV:=.agg (roomC r)
theorem zy8 (r:RoomD):Pure (room r):=zx3 (zy9 r)
def room0 (id:Bytes):RoomD:=⟨id,[],[],[],[],[],0⟩
def roomZ (id:Bytes):List AV:=[S id,.v (.slice none 0 0),.v (.slice none 0 0),.v (.slice none 0 0),.v (.slice none 0 0),.v (.slice none 0 0),I 0,.v (.slice none 0 0),.v (.slice none 0 0)]
theorem yrd (id:Bytes):WkL0 (roomZ id) (roomC (room0 id)):=⟨.refl _,.nil _,.nil _,.nil _,.nil _,.nil _,.refl _,.nil _,.nil _,trivial⟩
def newR (id:Bytes):RoomD×Int:=if znt id [33]=0 then (room0 id,0) else (room0 [],3)
def roomI (p:RoomD×Int):AV:=.tup [room p.1,I p.2]
theorem zxo (p:RoomD×Int):PureR (roomI p):=by
 intro r hr
 simp only[List.mem_cons,List.not_mem_nil,or_false]at hr
 rcases hr with rfl|rfl
 · exact zy8 _
 · exact zx1 _
theorem zr9 (id:Bytes) (hs:id.length≤1000000000000):AC prog 13 [S id] (roomI (newR id)):=by
 refine AC.ob func13 ntmps13 results13 (zzi (zx2 _)) (zxo _) fun w S'=>AWp.of_vc [] ?_
 unfold newR
 simp[go_sem]
 refine cpu (znr id hs) ?_
 by_cases c:znt id [33]=0
 · rw[if_pos c,c]
   simp[go_sem]
   refine PostR.retW [] (r0:=.tup [.agg (roomZ id),I 0]) (by simp[go_sem,roomZ]) ?_
   exact .tup ⟨.one (.agg (yrd id)),.refl _,trivial⟩
 · have g:(znt id [33] != 0)=true:=bne_iff_ne.2 c
   rw[if_neg c]
   simp[go_sem,c,g]
   refine PostR.retW [] (r0:=.tup [.agg (roomZ []),I 3]) (by simp[go_sem,roomZ]) ?_
   exact .tup ⟨.one (.agg (yrd [])),.refl _,trivial⟩
def rowOf (r:RoomD) (id:Int):Option RowD:=r.rows.find? fun x=>x.id==id
def rowZ:RowD:=⟨0,0,0,false⟩
def zuy (o:Option RowD):AV:=.tup [.agg (rowC (o.getD rowZ)),B o.isSome]
theorem zxm (o:Option RowD):PureR (zuy o):=by
 intro r hr
 simp only[List.mem_cons,List.not_mem_nil,or_false]at hr
 rcases hr with rfl|rfl
 · exact zx3 (zza _)
 · exact zx0 _
theorem row_ac (r:RoomD) (id:Int) (hsz:r.rows.length≤1000000):AC prog 24 [room r,I id] (zuy (rowOf r id)):=by
 refine AC.ob func24 ntmps24 results24 (zzj (zy8 _) (zx1 _)) (zxm _) fun w S'=>AWp.of_vc [] ?_
 obtain⟨o,ho⟩:∃ o,rowOf r id=o:=⟨_,rfl⟩
 rw[ho]
 unfold rowOf at ho
 obtain⟨L,hL⟩:∃ L,r.rows=L:=⟨_,rfl⟩
 rw[hL]at ho hsz
 simp[go_sem,room,roomC,hL,rowsA]
 refine AWp.loop_vc [] (fun m s=>∃ q:Nat,q≤L.length∧m=L.length - q∧s.σ 1=I id∧s.σ 9=.lst 4 (L.map fun r=>.agg (rowC r))∧s.σ 10=I L.length∧s.σ 11=I q∧s.σ 4=.rptr 4 (s.ver 4) 0 0∧s.h 4=.box [I 0,I 0,I 0,B false]∧∀ (j:Nat) (hj:j < L.length),j < q→(L[j].id==id)=false) L.length ⟨0,by simp[go_sem]⟩ ?_
 rintro m s ⟨q,hq,rfl,i1,i9,i10,i11,i4,k4,hno⟩
 have hws:IntKind.i64.wrap ((q:Int)+1)=(q:Int)+1:=wrapB (by omega) (by omega)
 by_cases hlt:q < L.length
 · obtain⟨x,hx⟩:∃ x,L[q]=x:=⟨_,rfl⟩
   by_cases hk:x.id=id
   · rw[zkv hlt (by rw[hx];simp[hk]) (fun j hj hjq=>hno j hj hjq),hx]at ho
     rw[← ho]
     simp[go_sem,i1,i9,i10,i11,i4,k4,hlt,hx,hk,rowC]
     refine PostR.ret ?_
     simp[go_sem,i4,zuy,rowC,hk]
   · have hk2:(x.id==id)=false:=beq_eq_false_iff_ne.2 hk
     simp[go_sem,i1,i9,i10,i11,i4,k4,hlt,hx,hk,hk2,rowC,hws]
     refine⟨L.length - (q+1),by omega,q+1,by omega,rfl,by omega,fun j hj hjq=>?_⟩
     rcases Nat.lt_succ_iff_lt_or_eq.1 hjq with h|rfl
     · simpa using hno j hj h
     · rw[hx];exact hk
 · rw[zks fun j hj=>hno j hj (by omega)]at ho
   rw[← ho]
   simp[go_sem,i1,i9,i10,i11,i4,k4,hlt]
   refine PostR.ret ?_
   simp[go_sem,i4,zuy,rowC,rowZ]
noncomputable def znf (l:List Evt):List Int:=headsOf l (zbh l)
theorem zbj (l:List Evt):(zbh l).length≤l.length:=by
 unfold zbh
 split
 · simp
 · exact zbg _ _
theorem zng (l:List Evt) (hl:Good l):AC prog 53 [evs l] (ints (znf l)):=by
 refine AC.ob func53 ntmps53 results53 (zzi (zyk _)) (zxe _) fun w S'=>AWp.of_vc [] ?_
 have hll:=hl.fit.len
 have hal:=zbj l
 simp[go_sem]
 refine cpu (zbi l hl) ?_
 simp[go_sem]
 refine cpu (zni l (zbh l) hl.fit (by omega)) ?_
 simp[go_sem]
 refine PostR.ret ?_
 simp[go_sem,znf]
structure SetM (es:Array MapEntry) (clk:Nat) (p:Int→Bool):Prop where
 int:intM es=true
 ok:mapOK es clk
 keys:zpg es
 mem:∀ n,n∈es.toList.map keyI↔p n=true
theorem mem_mput {es:Array MapEntry} (hi:intM es=true) (hk:zpg es) (clk:Nat) (n:Int) (v:Value) (m:Int):m∈(mput es clk n v).1.toList.map keyI↔m=n∨m∈es.toList.map keyI:=by
 have key:∀ (es:Array MapEntry),intM es=true→zpg es→∀ m,m∈es.toList.map keyI↔(mget es m).isSome=true:=fun es hi hk m=>by
  constructor
  · intro h
    obtain⟨e,he,rfl⟩:=List.mem_map.1 h
    rw[zrl hi hk he];rfl
  · intro h
    obtain⟨v,hv⟩:=Option.isSome_iff_exists.1 h
    obtain⟨e,he,hke,_⟩:=zrk hi hv
    exact List.mem_map.2 ⟨e,he,hke⟩
 rw[key _ (yct _ _ _ _ hi) (zph hi hk _ _),key es hi hk,ycs]
 by_cases h:n=m
 · subst h;simp
 · rw[if_neg h]
   have:¬ m=n:=fun h2=>h h2.symm
   simp[this]
theorem SetM.nil:SetM #[] 0 (fun _=>false):=⟨rfl,zq5,zpi,fun n=>by simp⟩
theorem SetM.put {es:Array MapEntry} {clk:Nat} {p:Int→Bool} (h:SetM es clk p) (n:Int) (v:Value):SetM (mput es clk n v).1 (mput es clk n v).2 (fun m=>m==n||p m) :=
 ⟨yct _ _ _ _ h.int,zq4 h.ok _ _,zph h.int h.keys _ _,fun m=>by rw[mem_mput h.int h.keys,h.mem];simp⟩
theorem zq9 {es:Array MapEntry} (hi:intM es=true) (n:Int):(mdel es n).toList=es.toList∧n∉es.toList.map keyI∨∃ i e,es.toList[i]? = some e∧keyIs n e=true∧(mdel es n).toList=es.toList.eraseIdx i:=by
 unfold mdel
 cases hf:findI n es.toList 0 with
 | none =>
  refine .inl ⟨rfl,fun hm=>?_⟩
  obtain⟨e,he,hk⟩:=List.mem_map.1 hm
  have h1:=(zkj n es.toList 0).1 hf e he
  rw[(zpa (List.all_eq_true.1 hi e he)).2 hk]at h1
  cases h1
 | some x =>
  obtain⟨j,e,rfl,h1,h2,_⟩:=zkk n _ _ _ hf
  refine .inr ⟨j,e,h1,h2,?_⟩
  simp
theorem SetM.del {es:Array MapEntry} {clk:Nat} {p:Int→Bool} (h:SetM es clk p) (n:Int):SetM (mdel es n) clk (fun m=>p m&&!(m==n)):=by
 rcases zq9 h.int n with ⟨h1,h2⟩|⟨i,e,h1,h2,h3⟩
 · refine⟨?_,?_,?_,fun m=>?_⟩
   · unfold intM;rw[h1];exact h.int
   · unfold mapOK;rw[h1];exact h.ok
   · unfold zpg;rw[h1];exact h.keys
   · rw[h1,h.mem]
     by_cases hm:m=n
     · subst hm
       rw[h.mem]at h2
       simp[h2]
     · simp[hm]
 · have hie:=List.getElem?_eq_some_iff.1 h1
   obtain⟨hil,hie⟩:=hie
   have hek:keyI e=n:=(zpa (List.all_eq_true.1 h.int e (List.mem_of_getElem? h1))).1 h2
   refine⟨?_,⟨fun x hx=>?_,?_⟩,?_,fun m=>?_⟩
   · unfold intM
     rw[h3,List.all_eq_true]
     intro x hx
     exact List.all_eq_true.1 h.int x (List.mem_of_mem_eraseIdx hx)
   · rw[h3]at hx
     exact h.ok.1 x (List.mem_of_mem_eraseIdx hx)
   · rw[h3]
     exact (h.ok.2).sublist ((List.eraseIdx_sublist _ _).map _)
   · unfold zpg
     rw[h3]
     exact List.Nodup.sublist ((List.eraseIdx_sublist _ _).map _) h.keys
   · rw[h3]
     have hk:=h.keys
     unfold zpg at hk
     rw[List.Nodup,List.pairwise_map]at hk
     simp only[Bool.and_eq_true,← h.mem,Bool.not_eq_true',beq_eq_false_iff_ne,List.mem_map]
     constructor
     · rintro⟨x,hx,rfl⟩
       obtain⟨j,hj,hne,hjx⟩:=List.mem_eraseIdx_iff_getElem.1 hx
       refine⟨⟨x,List.mem_of_mem_eraseIdx hx,rfl⟩,fun hkn=>?_⟩
       rcases Nat.lt_trichotomy j i with g|g|g
       · have:=List.pairwise_iff_getElem.1 hk j i hj hil g
         rw[hjx,hie,hkn,hek]at this;exact this rfl
       · exact hne g
       · have:=List.pairwise_iff_getElem.1 hk i j hil hj g
         rw[hjx,hie,hkn,hek]at this;exact this rfl
     · rintro⟨⟨x,hx,rfl⟩,hne⟩
       obtain⟨j,hj,hjx⟩:=List.mem_iff_getElem.1 hx
       refine⟨x,List.mem_eraseIdx_iff_getElem.2 ⟨j,hj,fun hji=>?_,hjx⟩,rfl⟩
       subst hji
       rw[hie]at hjx
       subst hjx
       exact hne hek
theorem SetM.sorted {es:Array MapEntry} {clk:Nat} {p:Int→Bool} (h:SetM es clk p) {D:List Int} (hD:D.Nodup) (hm:∀ n,n∈D↔n∈es.toList.map keyI) {R:List Int} (hR:∀ n,n∈R↔p n=true):(D.mergeSort fun x y=>decide (x≤y))=yjh R :=
 yjq hD (yjk _).1 fun n=>by rw[hm,h.mem,(yjk _).2,hR]
theorem yjr {G:Ctx} (hG:G.P=prog) {st:St} {dst:Option Tmp} {K:St→Prop} {id v:Nat} {es:Array MapEntry} {clk:Nat} {p:Int→Bool} {R:List Int} (hd:dstOK G.n dst) (hid:id < 20000) (hv:st.ver id=v) (hh:st.h id=.map es clk) (h:SetM es clk p) (hR:∀ n,n∈R↔p n=true) (hsz:es.size≤1000000)
 (hK:∀ s:St,K ((st.mem s).put dst (ints (yjh R)))):CallSem G 79 [.ref id v] dst K st:=by
 obtain⟨P,w0,S0,nn,rnd,ids,e0⟩:=G
 subst hG
 have hm:es.size≤maxLen:=by unfold maxLen;omega
 refine CallSem.inline 20000 func79 rfl rfl ntmps79 (congrArg Array.toList results79) (by simp) hd fun e1=>AWp.of_vc [7] ?_
 have n7:¬ id=20007:=by omega
 have n7':¬ 20007=id:=by omega
 simp[go_sem,hv,hh,hm,n7]
 refine⟨⟨by omega,by omega⟩,h.ok,?_⟩
 refine AWp.loop_vc [7] (fun m s=>∃ (done:List MapEntry) (x u:Nat),m=es.size - done.length∧Go.Abs.Seen es done∧s.σ 3=.ref 20007 x∧s.ver 20007=x∧s.h 20007=.arr 3 1 ((done.map keyI).map I)∧s.σ 9=.rptr 20009 u 0 0∧s.ver 20009=u∧s.h 20009=.iter es clk done) es.size ⟨[],st.ver 20007+1,st.ver 20009+1,by simp[go_sem,Go.Abs.Seen.nil,n7,n7']⟩ ?_
 rintro m s ⟨done,x,u,rfl,hS,i3,jv,jh,i9,hu,hi⟩
 have hdl:=hS.len
 simp[go_sem,i3,jv,jh,i9,hu,hi]
 refine NextK.mk (fun hall=>?_) fun e he hnew=>?_
 · have hD:=h.sorted (D:=done.map keyI) (hS.keys h.keys) (fun n=>by
    constructor
    · intro hn
      obtain⟨e,he,rfl⟩:=List.mem_map.1 hn
      exact List.mem_map.2 ⟨e,hS.mem e he,rfl⟩
    · intro hn
      obtain⟨e,he,rfl⟩:=List.mem_map.1 hn
      exact List.mem_map.2 ⟨e,(hS.all h.ok hall e).2 he,rfl⟩) hR
   have hdl2:(done.map keyI).length≤1000000:=by rw[List.length_map];omega
   generalize done.map keyI=D at jh hdl2 hD ⊢
   simp[go_sem,i3,jv,jh,i9,hu,hi]
   refine CallSem.sortInts (ρ:=laysSort_ren) (id:=20007) (e:=3) (l:=D) laysSort ⟨_,func114,rfl,rfl⟩ (by simp[go_sem,jv]) (by simp[go_sem,jv,jh,Function.comp_def];try rfl) (by simp[go_sem]) (by omega) ?_
   simp[go_sem,i3,jv]
   rw[hD]
   refine⟨[20007],ints (yjh R),?_,hK _⟩
   simp[go_sem,i3,jv,resIn]
 · have hek:=zoo h.int he
   have hS':=hS.snoc he hnew
   have hdl':=hS'.len
   rw[List.length_append,List.length_cons,List.length_nil]at hdl'
   simp[go_sem,i3,jv,jh,i9,hu,hi,hek]
   exact⟨⟨by omega,by omega⟩,es.size - (done++[e]).length,by rw[List.length_append,List.length_cons,List.length_nil];omega,done++[e],rfl,hS',by simp[I],rfl⟩
theorem SetM.congr {es:Array MapEntry} {clk:Nat} {p q:Int→Bool} (h:SetM es clk p) (e:∀ n,p n=q n):SetM es clk q:=⟨h.int,h.ok,h.keys,fun n=>by rw[h.mem,e]⟩
theorem SetM.size {es:Array MapEntry} {clk:Nat} {p:Int→Bool} (h:SetM es clk p) {L:List Int} (hL:∀ n,p n=true→n∈L):es.size≤L.length:=by
 have:=zsq h.keys (b:=L) fun n hn=>hL n ((h.mem n).1 hn)
 simpa using this
def leftB (ids:List Int) (l:List Evt) (n:Int):Bool:=ids.contains n&&!(l.any fun e=>e.id==n)
theorem zqf (ids:List Int) (l:List Evt) (n:Int):n∈ids.filter (fun n=>!zpu l n)↔leftB ids l n=true:=by
 unfold leftB zpu
 rw[List.mem_filter]
 have:(getE l n).isSome=l.any fun e=>e.id==n:=by
  unfold getE
  rw[Bool.eq_iff_iff,List.find?_isSome,List.any_eq_true]
 rw[this]
 simp
theorem yjf (l:List Evt) (ids:List Int) (hl:l.length≤1000000) (hi:ids.length≤1000000):AC prog 47 [evs l,ints ids] (ints (zru l ids)):=by
 refine AC.ob func47 ntmps47 results47 (zzj (zyk _) (zyr _)) (zxe _) fun w S'=>AWp.of_vc [12] ?_
 have hm:ids.length≤maxLen:=by unfold maxLen;omega
 simp[go_sem,hm]
 refine AWp.loop_vc [12] (fun m s=>∃ (q clk:Nat) (es:Array MapEntry),q≤ids.length∧m=ids.length - q∧SetM es clk (fun n=>decide (n∈ids.take q))∧s.σ 0=evs l∧s.σ 5=.ref 12 1∧s.ver 12=1∧s.h 12=.map es clk∧s.σ 13=ints ids∧s.σ 14=I ids.length∧s.σ 15=I q) ids.length ⟨0,0,#[],by simp[go_sem];exact SetM.nil⟩ ?_
 rintro m s ⟨q,clk,es,hq,rfl,hS,i0,i5,jv,jh,i13,i14,i15⟩
 have hws:IntKind.i64.wrap ((q:Int)+1)=(q:Int)+1:=wrapB (by omega) (by omega)
 by_cases hlt:q < ids.length
 · obtain⟨x,hx⟩:∃ x,ids[q]=x:=⟨_,rfl⟩
   have hp:=(hS.put x (.bool true)).congr (q:=fun n=>decide (n∈ids.take (q+1))) fun n=>by
    rw[List.take_succ_eq_append_getElem hlt,hx,Bool.eq_iff_iff]
    simp[or_comm]
   have hint:=hS.int
   simp[go_sem,i0,i5,jv,jh,i13,i14,i15,hlt,hx,hint,hws]
   exact⟨ids.length - (q+1),by omega,q+1,by omega,rfl,_,_,hp,⟨rfl,rfl⟩,by omega⟩
 · have htk:ids.take q=ids:=List.take_of_length_le (by omega)
   rw[htk]at hS
   simp[go_sem,i0,i5,jv,jh,i13,i14,i15,hlt]
   clear hws hq i13 i14 i15 hlt htk
   refine AWp.loop_vc [12] (fun m s=>∃ (q clk:Nat) (es:Array MapEntry),q≤l.length∧m=l.length - q∧SetM es clk (leftB ids (l.take q))∧s.σ 5=.ref 12 1∧s.ver 12=1∧s.h 12=.map es clk∧s.σ 22=evs l∧s.σ 23=I l.length∧s.σ 24=I q) l.length ⟨0,clk,es,by simp[go_sem,i5,jv,jh];exact hS.congr fun n=>by rw[Bool.eq_iff_iff];simp[leftB]⟩ ?_
   clear i0 i5 jv jh hS s
   rintro m s ⟨q,clk,es,hq,rfl,hS,i5,jv,jh,i22,i23,i24⟩
   have hws:IntKind.i64.wrap ((q:Int)+1)=(q:Int)+1:=wrapB (by omega) (by omega)
   have hint:=hS.int
   by_cases hlt:q < l.length
   · obtain⟨x,hx⟩:∃ x,l[q]=x:=⟨_,rfl⟩
     have hp:=(hS.del x.id).congr (q:=leftB ids (l.take (q+1))) fun n=>by
      unfold leftB
      rw[List.take_succ_eq_append_getElem hlt,hx,List.any_append]
      have hc:(n==x.id)=(x.id==n):=by
       by_cases h:n=x.id
       · subst h;rfl
       · rw[beq_eq_false_iff_ne.2 h,beq_eq_false_iff_ne.2 fun h2=>h h2.symm]
      simp only[List.any_cons,List.any_nil,Bool.or_false]
      rw[hc]
      cases ids.contains n<;>cases (l.take q).any (fun e=>e.id==n)<;>cases (x.id==n)<;>rfl
     simp[go_sem,i5,jv,jh,i22,i23,i24,hlt,hx,hint,hws]
     exact⟨l.length - (q+1),by omega,q+1,by omega,rfl,_,_,hp,⟨rfl,rfl⟩,by omega⟩
   · have htk:l.take q=l:=List.take_of_length_le (by omega)
     rw[htk]at hS
     have hsz:=hS.size (L:=ids) fun n hn=>by
      unfold leftB at hn
      simp at hn
      exact hn.1
     simp[go_sem,i5,jv,jh,i22,i23,i24,hlt]
     refine yjr rfl (by simp[go_sem]) (by decide) (by simp[go_sem,jv]) (by simp[go_sem,jh]) hS (fun n=>zqf ids l n) (by omega) fun s2=>?_
     simp[go_sem]
     refine PostR.ret ?_
     simp[go_sem,zru]
def yfr (l:List Evt) (e:Evt):Bool:=(zru l e.prev).isEmpty&&(zru l e.auth).isEmpty
theorem yfs (l:List Evt) (e:Evt) (hl:l.length≤1000000) (h1:e.prev.length≤1000000) (h2:e.auth.length≤1000000):AC prog 26 [evs l,ev e] (B (yfr l e)):=by
 refine AC.ob func26 ntmps26 results26 (zzj (zyk _) (zyh _)) (zx0 _) fun w S'=>AWp.of_vc [] ?_
 unfold yfr
 simp[go_sem]
 refine cpu (yjf l e.prev hl h1) ?_
 generalize zru l e.prev=A
 cases A with
 | cons x A =>
  have g0:¬ ((A.length:Int)+1=0):=by omega
  have g1:((A.length:Int)+1==0)=false:=beq_eq_false_iff_ne.2 g0
  simp[go_sem,g0,g1]
  exact rets
 | nil =>
  simp[go_sem]
  refine cpu (yjf l e.auth hl h2) ?_
  generalize zru l e.auth=C
  cases C with
  | cons x C =>
   have g0:¬ ((C.length:Int)+1=0):=by omega
   have g1:((C.length:Int)+1==0)=false:=beq_eq_false_iff_ne.2 g0
   simp[go_sem,g0,g1]
   exact rets
  | nil =>
   simp[go_sem]
   exact rets
def begB (l:List Evt) (ss:List Int) (j:Nat):Bool:=(l.getD j evZ).kind==1&&(decide (j < ss.length)&&ss.getD j 0==4)
def begUp (l:List Evt) (ss:List Int) (q:Nat):Nat:=((List.range q).filter (begB l ss)).length
def begN (l:List Evt) (ss:List Int):Int:=begUp l ss l.length
theorem zei (l:List Evt) (ss:List Int) (q:Nat):begUp l ss (q+1)=begUp l ss q+if begB l ss q=true then 1 else 0:=by
 unfold begUp
 rw[List.range_succ,List.filter_append,List.length_append]
 congr 1
 cases h:begB l ss q<;>simp[h]
theorem begUp_le (l:List Evt) (ss:List Int) (q:Nat):begUp l ss q≤q:=by
 unfold begUp
 have:=List.length_filter_le (begB l ss) (List.range q)
 simpa using this
noncomputable def zej (l:List Evt):Int:=begN l (ykm (runT l) l)
theorem zek (l:List Evt) (hl:Good l):AC prog 48 [evs l] (I (zej l)):=by
 refine AC.ob func48 ntmps48 results48 (zzi (zyk _)) (zx1 _) fun w S'=>AWp.of_vc [] ?_
 have hll:=hl.fit.len
 unfold zej begN
 simp[go_sem]
 refine cpu (ykn l hl) ?_
 generalize ykm (runT l) l=ss
 simp[go_sem]
 refine AWp.loop_vc [] (fun m s=>∃ q:Nat,q≤l.length∧m=l.length - q∧s.σ 3=I (begUp l ss q)∧s.σ 4=ints ss∧s.σ 9=evs l∧s.σ 10=I l.length∧s.σ 11=I q) l.length ⟨0,by simp[go_sem,begUp]⟩ ?_
 rintro m s ⟨q,hq,rfl,i3,i4,i9,i10,i11⟩
 have hws:IntKind.i64.wrap ((q:Int)+1)=(q:Int)+1:=wrapB (by omega) (by omega)
 have hbl:=begUp_le l ss q
 have hwb:IntKind.i64.wrap ((begUp l ss q:Int)+1)=(begUp l ss q:Int)+1:=wrapB (by omega) (by omega)
 by_cases hlt:q < l.length
 · obtain⟨x,hx⟩:∃ x,l[q]=x:=⟨_,rfl⟩
   have hgx:l.getD q evZ=x:=by rw[← hx];simp[List.getD,hlt]
   have hsu:=zei l ss q
   have hb:begB l ss q=(x.kind==1&&(decide (q < ss.length)&&ss.getD q 0==4)):=by unfold begB;rw[hgx]
   generalize begUp l ss q=N at i3 hsu hwb hbl
   by_cases c1:x.kind=1
   · by_cases c2:q < ss.length
     · obtain⟨y,hy⟩:∃ y,ss[q]=y:=⟨_,rfl⟩
       have hgy:ss.getD q 0=y:=by rw[← hy];simp[List.getD,c2]
       by_cases c3:y=4
       · rw[hb,hgy]at hsu
         simp[c1,c2,c3]at hsu
         simp[go_sem,i3,i4,i9,i10,i11,hlt,hx,c1,c2,hy,c3,hws,hwb]
         exact⟨l.length - (q+1),by omega,q+1,by omega,rfl,by omega,by omega⟩
       · have g3:(y==4)=false:=beq_eq_false_iff_ne.2 c3
         rw[hb,hgy]at hsu
         simp[c1,c2,c3]at hsu
         simp[go_sem,i3,i4,i9,i10,i11,hlt,hx,c1,c2,hy,c3,g3,hws]
         exact⟨l.length - (q+1),by omega,q+1,by omega,rfl,by omega,by omega⟩
     · rw[hb]at hsu
       simp[c1,c2]at hsu
       simp[go_sem,i3,i4,i9,i10,i11,hlt,hx,c1,c2,hws]
       exact⟨l.length - (q+1),by omega,q+1,by omega,rfl,by omega,by omega⟩
   · have g1:(x.kind==1)=false:=beq_eq_false_iff_ne.2 c1
     rw[hb]at hsu
     simp[c1]at hsu
     simp[go_sem,i3,i4,i9,i10,i11,hlt,hx,c1,g1,hws]
     exact⟨l.length - (q+1),by omega,q+1,by omega,rfl,by omega,by omega⟩
 · have hqe:q=l.length:=by omega
   subst hqe
   simp[go_sem,i3,i4,i9,i10,i11,hlt]
   exact rets
end Go.Proofs.YthjmjdleecmaeaaGreat
