/- Several texts of the proof in one: B40, Y0, B41, B42, B43, B44, B48. No condition. -/
import Derived.Test.YthjmjdleecmaeaaGreatL38
set_option linter.unusedSimpArgs false
set_option linter.unusedVariables false
set_option maxHeartbeats 4000000
set_option maxRecDepth 8000
namespace Go.Proofs.YthjmjdleecmaeaaGreat
open Go Go.Abs
structure Pool (U:List Evt):Prop where
 len:U.length≤12
 sm:∀ e∈U,SmE e
 md:∀ e∈U,Mod e
 pr:∀ e∈U,e.prev.length≤40
 au:∀ e∈U,e.auth.length≤40
def idsOf (l:List Evt):List Int:=l.map (·.id)
theorem Pool.short {U l:List Evt} (hU:Pool U) (h:∀ x∈l,x∈U) (hn:(idsOf l).Nodup):l.length≤12:=by
 have:=zsp (b:=idsOf U) hn fun n hn=>by
  obtain⟨x,hx,rfl⟩:=List.mem_map.1 hn
  exact List.mem_map.2 ⟨x,h x hx,rfl⟩
 simp only[idsOf,List.length_map]at this
 have:=hU.len
 omega
theorem Pool.good {U l:List Evt} (hU:Pool U) (h:∀ x∈l,x∈U) (hn:(idsOf l).Nodup):Good l:=by
 have hl:=hU.short h hn
 exact⟨⟨fun x hx=>hU.sm x (h x hx),fun x hx=>hU.md x (h x hx),by omega⟩,⟨by omega,fun x hx=>hU.pr x (h x hx),fun x hx=>hU.au x (h x hx)⟩⟩
theorem zmw {l:List Evt} {id:Int} (h:getE l id=none):id∉idsOf l:=by
 intro hm
 obtain⟨x,hx,rfl⟩:=List.mem_map.1 hm
 have:=List.find?_eq_none.1 h x hx
 simp at this
theorem zzs {l:List Evt} {e x:Evt} (h:x∈(putE l e).1):x∈l∨x=e:=by
 unfold putE at h
 split at h
 · cases h
 · split at h
   · split at h
     · cases h
     · simp only[List.mem_append,List.mem_cons]at h
       rcases h with h|rfl|h
       · exact .inl ((List.takeWhile_sublist _).subset h)
       · exact .inr rfl
       · exact .inl ((List.dropWhile_sublist _).subset h)
   · simp only at h
     split at h
     · rcases List.mem_or_eq_of_mem_set h with h|h
       · exact .inl h
       · exact .inr h
     · exact .inl h
theorem zzr {l:List Evt} (e:Evt) (h:(idsOf l).Nodup):(idsOf (putE l e).1).Nodup:=by
 unfold putE
 split
 · simp[idsOf]
 · split
   · rename_i hg
     split
     · simp[idsOf]
     · have hno:=zmw hg
       have hl:l=l.takeWhile (fun x=>decide (x.id < e.id))++l.dropWhile (fun x=>decide (x.id < e.id)):=(List.takeWhile_append_dropWhile).symm
       unfold idsOf at h hno ⊢
       rw[hl,List.map_append]at h hno
       simp only[List.map_append,List.map_cons]
       exact (List.perm_middle.nodup_iff).2 (List.nodup_cons.2 ⟨hno,h⟩)
   · rename_i x hg
     simp only
     split
     · obtain⟨hf,hi⟩|⟨k,hk,hf,hi,hid⟩:=zmu l e.id
       · rw[hf]at hg;cases hg
       · rw[hi]
         have:idsOf (l.set k e)=idsOf l:=by
          unfold idsOf
          rw[List.map_set,← hid]
          apply List.ext_getElem?
          intro j
          rw[List.getElem?_set]
          split
          · rename_i hkj
            subst hkj
            simp[hk]
          · rfl
         simp only[Int.toNat_natCast]
         rw[this];exact h
     · exact h
structure RoomIn (U:List Evt) (K:Nat) (r:RoomD):Prop where
 ev:∀ x∈r.events,x∈U
 wt:∀ x∈r.waiting,x∈U
 evn:(idsOf r.events).Nodup
 wtn:(idsOf r.waiting).Nodup
 st:r.state.length≤14
 rows:r.rows.length+r.waiting.length≤K
 n0:0≤r.next
 n1:r.next+r.waiting.length≤K
theorem RoomIn.ok {U:List Evt} {K:Nat} {r:RoomD} (hU:Pool U) (h:RoomIn U K r) (hK:K≤1000):RoomOk r :=
 ⟨hU.good h.ev h.evn,h.st,by have:=h.rows;omega,h.n0,by have:=h.n1;omega⟩
theorem RoomIn.mono {U:List Evt} {K K':Nat} {r:RoomD} (h:RoomIn U K r) (hK:K≤K'):RoomIn U K' r :=
 ⟨h.ev,h.wt,h.evn,h.wtn,h.st,by have:=h.rows;omega,h.n0,by have:=h.n1;omega⟩
theorem RoomIn.put {U:List Evt} {K:Nat} {r:RoomD} {e:Evt} (hU:Pool U) (h:RoomIn U K r) (he:e∈U):Good (putE r.events e).1 :=
 hU.good (fun x hx=>by rcases zzs hx with hx|rfl;exact h.ev x hx;exact he) (zzr e h.evn)
theorem RoomIn.new {U:List Evt} (id:Bytes):RoomIn U 0 (room0 id) :=
 ⟨fun x hx=>(by cases hx),fun x hx=>(by cases hx),List.nodup_nil,List.nodup_nil,by simp[room0],by simp[room0],by simp[room0],by simp[room0]⟩
theorem RoomIn.add {U:List Evt} {K:Nat} {r:RoomD} {e:Evt} (hU:Pool U) (h:RoomIn U K r) (he:e∈U):RoomIn U (K+1) (addR r e).1:=by
 unfold addR
 split
 · exact h.mono (by omega)
 split
 · exact h.mono (by omega)
 split
 · exact h.mono (by omega)
 split
 · exact h.mono (by omega)
 · refine⟨fun x hx=>?_,h.wt,zzr e h.evn,h.wtn,?_,?_,?_,?_⟩
   · rcases zzs hx with hx|rfl
     · exact h.ev x hx
     · exact he
   · have h1:=(zhr (putE r.events e).1).len
     have h2:=(h.put hU he).fit.len
     simp only
     omega
   · have:=h.rows
     simp only[List.length_append,List.length_cons,List.length_nil]
     omega
   · have:=h.n0
     simp only
     omega
   · have:=h.n1
     simp only
     omega
def zb0 (a b:Evt):Bool:=decide (a.depth < b.depth∨a.depth=b.depth∧a.id < b.id)
def nextW (L w:List Evt):Nat→Option Nat
 | 0=>none
 | q+1=>if yfr L (w.getD q evZ)=true then
  (match nextW L w q with
   | none=>some q
   | some p=>if zb0 (w.getD q evZ) (w.getD p evZ)=true then some q else some p)
  else nextW L w q
theorem zsg (L w:List Evt):∀ (q p:Nat),nextW L w q=some p→p < q
 | 0,p,h=>by cases h
 | q+1,p,h=>by
  unfold nextW at h
  split at h
  · split at h
    · cases h;omega
    · rename_i p' hp
      have:=zsg L w q p' hp
      split at h
      · cases h;omega
      · cases h;omega
  · have:=zsg L w q p h;omega
def idxO:Option Nat→Int
 | none=>-1
 | some p=>p
def cutW (r:RoomD) (p:Nat):RoomD:={ r with waiting:=r.waiting.take p++r.waiting.drop (p+1) }
noncomputable def settleR:Nat→RoomD→RoomD
 | 0,r=>r
 | n+1,r=>match nextW r.events r.waiting r.waiting.length with
  | none=>r
  | some p=>settleR n (addR (cutW r p) (r.waiting.getD p evZ)).1
theorem yit (n:Nat) (r:RoomD):settleR (n+1) r=(match nextW r.events r.waiting r.waiting.length with
 | none=>r
 | some p=>settleR n (addR (cutW r p) (r.waiting.getD p evZ)).1):=rfl
theorem zbm (r:RoomD) (e:Evt):(addR r e).1.waiting=r.waiting:=by
 unfold addR
 split
 · rfl
 split
 · rfl
 split
 · rfl
 split
 · rfl
 · rfl
noncomputable def yiv (r:RoomD):RoomD:=settleR r.waiting.length r
def orL (p:List Evt×Int) (l:List Evt):List Evt:=if p.2=0 then p.1 else l
def waitR (r:RoomD) (x:Evt):RoomD:={ r with waiting:=orL (putE r.waiting x) r.waiting }
def keepR (r:RoomD) (x:Evt):RoomD:={ r with events:=orL (putE r.events x) r.events }
def stOf (r:RoomD) (id:Int):Int:=((rowOf r id).getD rowZ).status
noncomputable def takeR (r:RoomD) (x:Evt):RoomD×Int×Int :=
 if (addR r x).2≠0 then (r,0,(addR r x).2) else (yiv (addR r x).1,stOf (yiv (addR r x).1) x.id,0)
noncomputable def recvR (r:RoomD) (e:Evt):RoomD×Int×Int :=
 if (recvE e).2≠0 then (r,0,(recvE e).2) else
 if (recvE e).1.room≠r.id then (r,0,13) else
 if (getE r.events (recvE e).1.id).isSome=true then (keepR r (recvE e).1,stOf r (recvE e).1.id,0) else
 if (getE r.waiting (recvE e).1.id).isSome=true then (waitR r (recvE e).1,1,0) else
 if yfr r.events (recvE e).1=true then takeR r (recvE e).1 else
 if 200≤r.waiting.length then (r,0,29) else (waitR r (recvE e).1,1,0)
theorem zhu {r:RoomD} {p:Nat} {x:Evt} (h:x∈(cutW r p).waiting):x∈r.waiting:=by
 unfold cutW at h
 rcases List.mem_append.1 h with h|h
 · exact List.mem_of_mem_take h
 · exact List.mem_of_mem_drop h
theorem zhs (w:List Evt) (p:Nat):w.take p++w.drop (p+1)=w.eraseIdx p:=(List.eraseIdx_eq_take_drop_succ w p).symm
theorem RoomIn.cut {U:List Evt} {K:Nat} {r:RoomD} (h:RoomIn U K r) {p:Nat} (hp:p < r.waiting.length):RoomIn U (K - 1) (cutW r p)∧0 < K:=by
 have hl:(cutW r p).waiting.length+1=r.waiting.length:=by
  unfold cutW
  simp only[List.length_append,List.length_take,List.length_drop]
  omega
 have h1:=h.rows
 have h2:=h.n1
 have hr:(cutW r p).rows=r.rows:=rfl
 have hn:(cutW r p).next=r.next:=rfl
 refine⟨⟨h.ev,fun x hx=>h.wt x (zhu hx),h.evn,?_,h.st,?_,h.n0,?_⟩,by omega⟩
 · unfold cutW
   simp only
   rw[zhs]
   unfold idsOf
   rw[List.Nodup,List.pairwise_map]
   have:=h.wtn
   unfold idsOf at this
   rw[List.Nodup,List.pairwise_map]at this
   exact this.sublist (List.eraseIdx_sublist ..)
 · rw[hr];omega
 · rw[hn];omega
theorem zmt {w:List Evt} {p:Nat} (hp:p < w.length):w.getD p evZ∈w:=by
 rw[List.getD_eq_getElem?_getD,List.getElem?_eq_getElem hp]
 exact List.getElem_mem hp
theorem RoomIn.settleR {U:List Evt} (hU:Pool U) {K:Nat}:∀ (n:Nat) {r:RoomD},RoomIn U K r→RoomIn U K (settleR n r)
 | 0,r,h=>h
 | n+1,r,h=>by
  unfold Go.Proofs.YthjmjdleecmaeaaGreat.settleR
  split
  · exact h
  · rename_i p hp
    have hlt:=zsg _ _ _ _ hp
    obtain⟨h1,h2⟩:=h.cut hlt
    have h3:=h1.add hU (h.wt _ (zmt hlt))
    rw[show K - 1+1=K from by omega]at h3
    exact RoomIn.settleR hU n h3
theorem RoomIn.settle {U:List Evt} (hU:Pool U) {K:Nat} {r:RoomD} (h:RoomIn U K r):RoomIn U K (yiv r):=h.settleR hU _
theorem putE_len (l:List Evt) (e:Evt):(putE l e).1.length≤l.length+1:=by
 unfold putE
 split
 · simp
 · split
   · split
     · simp
     · have:=congrArg List.length (List.takeWhile_append_dropWhile (p:=fun x:Evt=>decide (x.id < e.id)) (l:=l))
       simp only[List.length_append]at this
       simp only[List.length_append,List.length_cons]
       omega
   · simp only
     split
     · simp
     · omega
theorem put_len (l:List Evt) (e:Evt):(orL (putE l e) l).length≤l.length+1:=by
 unfold orL
 split
 · exact putE_len l e
 · omega
theorem zu0 {l:List Evt} {e x:Evt} (h:x∈orL (putE l e) l):x∈l∨x=e:=by
 unfold orL at h
 split at h
 · exact zzs h
 · exact .inl h
theorem zuz {l:List Evt} (e:Evt) (h:(idsOf l).Nodup):(idsOf (orL (putE l e) l)).Nodup:=by
 unfold orL
 split
 · exact zzr e h
 · exact h
theorem RoomIn.keep {U:List Evt} {K:Nat} {r:RoomD} (h:RoomIn U K r) {x:Evt} (hx:x∈U):RoomIn U K (keepR r x) :=
 ⟨fun y hy=>by
  rcases zu0 hy with hy|rfl
  · exact h.ev y hy
  · exact hx,h.wt,zuz x h.evn,h.wtn,h.st,h.rows,h.n0,h.n1⟩
theorem RoomIn.wait {U:List Evt} {K:Nat} {r:RoomD} (h:RoomIn U K r) {x:Evt} (hx:x∈U):RoomIn U (K+1) (waitR r x):=by
 have h1:=h.rows
 have h2:=h.n1
 have h3:=put_len r.waiting x
 refine⟨h.ev,fun y hy=>?_,h.evn,zuz x h.wtn,h.st,?_,h.n0,?_⟩
 · rcases zu0 hy with hy|rfl
   · exact h.wt y hy
   · exact hx
 · show r.rows.length+(orL (putE r.waiting x) r.waiting).length≤K+1
   omega
 · show r.next+(orL (putE r.waiting x) r.waiting).length≤(K+1:Nat)
   omega
theorem yfy {e:Evt} (h:¬ (recvE e).2≠0):(recvE e).1=kept e∧yp6 (kept e)=0:=by
 unfold recvE at h ⊢
 split
 · rename_i hv;exact⟨rfl,hv⟩
 · rename_i hv
   rw[if_neg hv]at h
   exact absurd hv h
theorem RoomIn.recv {U:List Evt} (hU:Pool U) {K:Nat} {r:RoomD} (h:RoomIn U K r) {e:Evt} (he:yp6 (kept e)=0→kept e∈U):RoomIn U (K+1) (recvR r e).1:=by
 unfold recvR
 split
 · exact h.mono (by omega)
 rename_i h0
 obtain⟨hk,hv⟩:=yfy h0
 have hx:=he hv
 rw[hk]
 split
 · exact h.mono (by omega)
 split
 · exact (h.keep hx).mono (by omega)
 split
 · exact h.wait hx
 split
 · unfold takeR
   split
   · exact h.mono (by omega)
   · exact (h.add hU hx).settle hU
 split
 · exact h.mono (by omega)
 · exact h.wait hx
end Go.Proofs.YthjmjdleecmaeaaGreat
namespace Go.Proofs.YthjmjdleecmaeaaGreat
open Go Go.Abs Go.Proofs.Tryz
theorem zja (st:St) (id:Nat) (x:Evt):(evc x).map (fz st id)=evc x:=rfl
theorem zje (x:Evt):(evc x).take 29=evc x:=rfl
theorem yis (U:List Evt) (hU:Pool U) (K:Nat) (hK:K≤500) (r:RoomD) (hr:RoomIn U K r):AC prog 28 [room r] (room (yiv r)):=by
 refine AC.ob func28 ntmps28 results28 (zzi (zy8 _)) (zy8 _) fun w S'=>AWp.of_vc [1,1000013] ?_
 obtain⟨T,hT⟩:∃ T,yiv r=T:=⟨_,rfl⟩
 rw[hT]
 unfold yiv at hT
 simp[go_sem,room,roomC,rowsA]
 refine AWp.loop_vc [1000013] (fun m s=>∃ (r:RoomD),m=r.waiting.length∧RoomIn U K r∧settleR r.waiting.length r=T∧s.σ 1=.rptr 1 (s.ver 1) 0 0∧s.h 1=.box (roomC r)∧s.σ 2=.rptr 2 (s.ver 2) 0 0∧s.h 2=.box (roomZ [])) r.waiting.length ⟨r,by simp[go_sem,hr,hT,roomC,rowsA,roomZ]⟩ ?_
 clear hr hT r
 rintro m s ⟨r,rfl,hr,hT,i1,k1,i2,k2⟩
 obtain⟨W,hW⟩:∃ W,r.waiting=W:=⟨_,rfl⟩
 have hok:=hr.ok hU (by omega)
 have hWl:W.length≤500:=by have:=hr.rows;rw[hW]at this;omega
 unfold roomC rowsA at k1
 unfold roomZ at k2
 simp[go_sem,i1,k1,i2,k2,hW]
 refine AWp.loop_vc [] (fun m s=>∃ q:Nat,q≤W.length∧m=W.length - q∧s.σ 1=.rptr 1 (s.ver 1) 0 0∧s.h 1=.box (roomC r)∧s.σ 2=.rptr 2 (s.ver 2) 0 0∧s.h 2=.box (roomZ [])∧s.σ 8=evs W∧s.σ 9=I W.length∧s.σ 10=I q∧s.σ 3=I (idxO (nextW r.events W q))) W.length ⟨0,by simp[go_sem,i1,k1,i2,k2,roomC,rowsA,hW,nextW,idxO,roomZ]⟩ ?_
 clear i1 k1 i2 k2 s
 rintro m s ⟨q,hq,rfl,i1,k1,i2,k2,i8,i9,i10,i3⟩
 unfold roomC rowsA at k1
 unfold roomZ at k2
 rw[hW]at k1
 by_cases hlt:q < W.length
 · obtain⟨x,hx⟩:∃ x,W[q]=x:=⟨_,rfl⟩
   have hxU:x∈U:=hr.wt x (by rw[hW,← hx];exact List.getElem_mem hlt)
   have hxg:W.getD q evZ=x:=by rw[← hx];simp[List.getD,hlt]
   have hlen:=hok.good.fit.len
   have hp1:=hU.pr x hxU
   have hp2:=hU.au x hxU
   have hws:IntKind.i64.wrap ((q:Int)+1)=(q:Int)+1:=wrapB (by omega) (by omega)
   have hnx:nextW r.events W (q+1)=if yfr r.events x=true then
    (match nextW r.events W q with
     | none=>some q
     | some p=>if zb0 x (W.getD p evZ)=true then some q else some p)
   else nextW r.events W q:=by
    rw[← hxg];rfl
   have hnl:=zsg r.events W q
   simp[go_sem,i1,k1,i2,k2,i8,i9,i10,i3,hlt,hx]
   refine cpu (yfs r.events x (by omega) (by omega) (by omega)) ?_
   cases hrd:yfr r.events x with
   | false =>
    rw[hrd,if_neg (by decide)]at hnx
    simp[go_sem,i1,k1,i2,k2,i8,i9,i10,i3,hlt,hx,hws]
    exact⟨W.length - (q+1),by omega,q+1,by omega,rfl,by rw[← hW];rfl,rfl,by omega,by rw[hnx]⟩
   | true =>
    rw[hrd,if_pos rfl]at hnx
    simp[go_sem,i1,k1,i2,k2,i8,i9,i10,i3,hlt,hx]
    refine da ?_
    cases hn:nextW r.events W q with
    | none =>
     rw[hn]at i3 hnx
     simp[go_sem,i1,k1,i2,k2,i8,i9,i10,i3,hlt,hx,idxO,hws]
     exact⟨W.length - (q+1),by omega,q+1,by omega,rfl,by rw[← hW];rfl,rfl,by omega,by rw[hnx]⟩
    | some p =>
     rw[hn]at i3 hnx
     have hpq:=hnl p hn
     have hpl:p < W.length:=by omega
     obtain⟨y,hy⟩:∃ y,W[p]=y:=⟨_,rfl⟩
     have hyg:W.getD p evZ=y:=by rw[← hy];simp[List.getD,hpl]
     have hp0:¬ (p:Int) < 0:=by omega
     simp only at hnx
     rw[hyg]at hnx
     have h3:x.depth < y.depth∨(x.depth=y.depth∧x.id < y.id)∨(x.depth=y.depth∧¬ x.id < y.id)∨y.depth < x.depth:=by omega
     rcases h3 with c1|⟨c1,c2⟩|⟨c1,c2⟩|c1
     · have ha:zb0 x y=true:=by unfold zb0;simp[c1]
       have c2:¬ y.depth≤x.depth:=by omega
       rw[ha,if_pos rfl]at hnx
       simp[go_sem,i1,k1,i2,k2,i8,i9,i10,i3,hlt,hx,idxO,hws,hpl,hy,hp0,c1,c2]
       exact⟨W.length - (q+1),by omega,q+1,by omega,rfl,by rw[← hW];rfl,rfl,by omega,by rw[hnx]⟩
     · have ha:zb0 x y=true:=by unfold zb0;simp[c1,c2]
       have c3:¬ y.id≤x.id:=by omega
       rw[ha,if_pos rfl]at hnx
       simp[go_sem,i1,k1,i2,k2,i8,i9,i10,i3,hlt,hx,idxO,hws,hpl,hy,hp0,c1,c2,c3]
       exact⟨W.length - (q+1),by omega,q+1,by omega,rfl,by rw[← hW];rfl,rfl,by omega,by rw[hnx]⟩
     · have ha:zb0 x y=false:=by unfold zb0;simp[c1];omega
       have c3:y.id≤x.id:=by omega
       rw[ha,if_neg (by decide)]at hnx
       simp[go_sem,i1,k1,i2,k2,i8,i9,i10,i3,hlt,hx,idxO,hws,hpl,hy,hp0,c1,c2,c3]
       exact⟨W.length - (q+1),by omega,q+1,by omega,rfl,by rw[← hW];rfl,rfl,by omega,by rw[hnx]⟩
     · have ha:zb0 x y=false:=by unfold zb0;simp;omega
       have c2:¬ x.depth < y.depth:=by omega
       have c3:¬ x.depth=y.depth:=by omega
       have c4:(x.depth==y.depth)=false:=beq_eq_false_iff_ne.2 c3
       have c5:y.depth≤x.depth:=by omega
       rw[ha,if_neg (by decide)]at hnx
       simp[go_sem,i1,k1,i2,k2,i8,i9,i10,i3,hlt,hx,idxO,hws,hpl,hy,hp0,c1,c2,c3,c4,c5]
       exact⟨W.length - (q+1),by omega,q+1,by omega,rfl,by rw[← hW];rfl,rfl,by omega,by rw[hnx]⟩
 · have hq2:q=W.length:=by omega
   subst hq2
   have hsr:settleR r.waiting.length r=(match nextW r.events W W.length with
    | none=>r
    | some p=>settleR (W.length - 1) (addR (cutW r p) (W.getD p evZ)).1):=by
    rw[hW]
    cases hl:W.length with
    | zero=>rfl
    | succ n=>rw[yit,hW,hl,Nat.add_sub_cancel]<;>rfl
   rw[hsr]at hT
   cases hn:nextW r.events W W.length with
   | none =>
    rw[hn]at hT i3
    simp only at hT
    simp[go_sem,i1,k1,i2,k2,i8,i9,i10,i3,idxO]
    refine PostR.ret ?_
    simp[go_sem,i2,← hT,hW]
   | some p =>
    rw[hn]at hT i3
    simp only at hT
    have hpl:=zsg _ _ _ _ hn
    have hp0:¬ (p:Int) < 0:=by omega
    have hp1:p≤W.length:=by omega
    have hp2:p+1≤W.length:=by omega
    have hwp:IntKind.i64.wrap ((p:Int)+1)=(p:Int)+1:=wrapB (by omega) (by omega)
    have hp3:((p:Int)+1).toNat=p+1:=by omega
    have hp4:(0:Int)≤(p:Int)+1:=by omega
    have hp5:(p:Int)+1≤W.length:=by omega
    obtain⟨x,hx⟩:∃ x,W[p]=x:=⟨_,rfl⟩
    have hxg:W.getD p evZ=x:=by rw[← hx];simp[List.getD,hpl]
    simp[go_sem,i1,k1,i2,k2,i8,i9,i10,i3,idxO,hp0,hpl,hx]
    refine AWp.drawDeep [75] [75] [1] [66,70] [0,1,2,3,4,5,6,7,8,9,10,11,12] rfl (by kernel_rfl) (fun d d' h=>h) rfl ?_
    simp[go_sem,i1,k1,i2,k2,i8,i9,i10,i3,idxO,hp0,hpl,hx,hp1,hp2,hp3,hp4,hp5,hwp]
    have htk:List.take (W.length - (p+1)) (List.drop (p+1) (List.map ev W))=List.drop (p+1) (List.map ev W):=List.take_of_length_le (by simp)
    have hca:=zhd (W.take p) (W.drop (p+1)) (by rw[List.length_take];omega) (by rw[List.length_drop];omega)
    unfold evs at hca
    rw[List.map_take,List.map_drop]at hca
    rw[htk]
    refine OwnCall.fresh hca (by simp) ?_
    simp[go_sem,i1,k1,i2,k2,i8,i9,i10,i3,idxO,hp0,hpl,hx,hp1,hp2,hp3,hp4,hp5,hwp]
    refine AWp.freeze 75 ?_
    refine AWp.region [] ?_
    have hcw:(cutW r p).waiting=W.take p++W.drop (p+1):=by unfold cutW;rw[hW]
    obtain⟨hcut,hK0⟩:=hr.cut (p:=p) (by rw[hW];exact hpl)
    have hxU:x∈U:=hr.wt x (by rw[hW,← hx];exact List.getElem_mem hpl)
    have hca2:=zbl putC (cutW r p) x (hcut.ok hU (by omega)) (hU.sm x hxU) (hU.md x hxU) (hcut.put hU hxU)
    have hR1:=hcut.add hU hxU
    rw[show K - 1+1=K from by omega]at hR1
    have hlen1:(addR (cutW r p) x).1.waiting.length+1=W.length:=by
     rw[zbm,hcw,List.length_append,List.length_take,List.length_drop];omega
    rw[hxg]at hT
    obtain⟨R1,hR1e⟩:∃ R1,addR (cutW r p) x=R1:=⟨_,rfl⟩
    rw[hR1e]at hca2 hR1 hlen1 hT
    unfold room roomC rowsA evs at hca2
    rw[hcw,List.map_append,List.map_take,List.map_drop]at hca2
    simp[go_sem,i1,k1,i2,k2,i8,i9,i10,i3,idxO,hp0,hpl,hx,hp1,hp2,hp3,hp4,hp5,hwp,zja,zje]
    refine cpu hca2 ?_
    unfold roomI room roomC rowsA
    simp[go_sem,i1,k1,i2,k2,i8,i9,i10,i3,idxO,hp0,hpl,hx,hp1,hp2,hp3,hp4,hp5,hwp,zja,zje]
    exact⟨R1.1.waiting.length,by omega,R1.1,rfl,hR1,by rw[show R1.1.waiting.length=W.length - 1 from by omega];exact hT,⟨rfl,rfl,rfl,rfl,rfl,rfl,rfl⟩,rfl⟩
def yfw (p:RoomD×Int×Int):AV:=.tup [room p.1,I p.2.1,I p.2.2]
theorem zxn (p:RoomD×Int×Int):PureR (yfw p):=by
 intro r hr
 simp only[List.mem_cons,List.not_mem_nil,or_false]at hr
 rcases hr with rfl|rfl|rfl
 · exact zy8 _
 · exact zx1 _
 · exact zx1 _
theorem yfu (U:List Evt) (hU:Pool U) (K:Nat) (hK:K≤400) (r:RoomD) (hr:RoomIn U K r) (e:Evt) (hes:SmE e) (he:yp6 (kept e)=0→kept e∈U):AC prog 14 [room r,ev e] (yfw (recvR r e)):=by
 refine AC.ob func14 ntmps14 results14 (zzj (zy8 _) (zyh _)) (zxn _) fun w S'=>AWp.of_vc [2,3] ?_
 obtain⟨T,hT⟩:∃ T,recvR r e=T:=⟨_,rfl⟩
 rw[hT]
 unfold recvR at hT
 have hok:=hr.ok hU (by omega)
 have hlen:=hok.good.fit.len
 have hrl:=hok.rows
 have hwl:r.waiting.length≤400:=by have:=hr.rows;omega
 have hrec:=yft e hes
 have hke:=@yfy e
 simp[go_sem,room,roomC,rowsA]
 refine cpu hrec ?_
 unfold evI
 obtain⟨X,hX⟩:∃ X,recvE e=X:=⟨_,rfl⟩
 rw[hX]at hT hke ⊢
 obtain⟨x,n⟩:=X
 simp only at hT hke ⊢
 by_cases c0:n=0
 case neg =>
  have g0:(n != 0)=true:=bne_iff_ne.2 c0
  rw[if_pos c0]at hT
  rw[← hT]
  simp[go_sem,c0,g0]
  refine PostR.ret ?_
  simp[go_sem,yfw,room,roomC,rowsA]
 rw[if_neg (not_not_intro c0)]at hT
 obtain⟨hk,hv⟩:=hke (not_not_intro c0)
 have hxU:x∈U:=by rw[hk];exact he hv
 have hxs:=hU.sm x hxU
 have hp1:=hU.pr x hxU
 have hp2:=hU.au x hxU
 clear hke hk hv hX hrec
 subst c0
 simp[go_sem]
 by_cases c1:x.room=r.id
 case neg =>
  have g1:(x.room==r.id)=false:=beq_eq_false_iff_ne.2 c1
  have g2:(x.room != r.id)=true:=bne_iff_ne.2 c1
  rw[if_pos c1]at hT
  rw[← hT]
  simp[go_sem,c1,g1,g2]
  refine PostR.ret ?_
  simp[go_sem,yfw,room,roomC,rowsA]
 rw[if_neg (not_not_intro c1)]at hT
 simp[go_sem,c1]
 refine cpu (yi1 r.events x.id) ?_
 unfold optE
 obtain⟨g,hg⟩:∃ g,getE r.events x.id=g:=⟨_,rfl⟩
 rw[hg]at hT ⊢
 have hrow:=row_ac r x.id (by omega)
 unfold room roomC rowsA zuy at hrow
 obtain⟨w1,hw1⟩:∃ w1,(rowOf r x.id).getD rowZ=w1:=⟨_,rfl⟩
 have hst:stOf r x.id=w1.status:=by unfold stOf;rw[hw1]
 rw[hw1]at hrow
 cases hgs:g.isSome with
 | true =>
  rw[hgs,if_pos rfl,hst]at hT
  simp[go_sem,hgs]
  refine cpu hrow ?_
  unfold rowC
  simp[go_sem]
  have hput:=zzy r.events x hok.good.ok.sm hxs (by omega)
  unfold keepR orL at hT
  obtain⟨P,hP⟩:∃ P,putE r.events x=P:=⟨_,rfl⟩
  rw[hP]at hT hput
  obtain⟨L,k⟩:=P
  unfold evsI at hput
  simp only at hT hput
  refine cpu hput ?_
  by_cases c2:k=0
  · rw[if_pos c2]at hT
    rw[← hT]
    simp[go_sem,c2]
    refine AWp.drawText [] [4] [] [] rfl (by kernel_rfl) (fun d d' h=>h) ?_
    simp[go_sem]
    refine PostR.ret ?_
    simp[go_sem,yfw,room,roomC,rowsA]
    exact fun a _=>rfl
  · have g2:(k==0)=false:=beq_eq_false_iff_ne.2 c2
    rw[if_neg c2]at hT
    rw[← hT]
    simp[go_sem,c2,g2]
    refine AWp.drawText [] [4] [] [] rfl (by kernel_rfl) (fun d d' h=>h) ?_
    simp[go_sem]
    refine PostR.ret ?_
    simp[go_sem,yfw,room,roomC,rowsA]
    exact fun a _=>rfl
 | false =>
  rw[hgs,if_neg (by decide)]at hT
  simp[go_sem,hgs]
  refine cpu (yi1 r.waiting x.id) ?_
  unfold optE
  obtain⟨h,hh⟩:∃ h,getE r.waiting x.id=h:=⟨_,rfl⟩
  rw[hh]at hT ⊢
  have hput:=zzy r.waiting x (fun y hy=>hU.sm y (hr.wt y hy)) hxs (by omega)
  unfold waitR orL at hT
  obtain⟨P,hP⟩:∃ P,putE r.waiting x=P:=⟨_,rfl⟩
  rw[hP]at hT hput
  obtain⟨L,k⟩:=P
  unfold evsI at hput
  simp only at hT hput
  cases hhs:h.isSome with
  | true =>
   rw[hhs,if_pos rfl]at hT
   simp[go_sem,hhs]
   refine cpu hput ?_
   by_cases c2:k=0
   · rw[if_pos c2]at hT
     rw[← hT]
     simp[go_sem,c2]
     refine PostR.ret ?_
     simp[go_sem,yfw,room,roomC,rowsA]
   · have g2:(k==0)=false:=beq_eq_false_iff_ne.2 c2
     rw[if_neg c2]at hT
     rw[← hT]
     simp[go_sem,c2,g2]
     refine PostR.ret ?_
     simp[go_sem,yfw,room,roomC,rowsA]
  | false =>
   rw[hhs,if_neg (by decide)]at hT
   simp[go_sem,hhs]
   refine cpu (yfs r.events x (by omega) (by omega) (by omega)) ?_
   cases hrd:yfr r.events x with
   | false =>
    have hl0:¬ (200:Int)≤r.waiting.length∨(200:Int)≤r.waiting.length:=by omega
    rw[hrd,if_neg (by decide)]at hT
    rcases hl0 with c3|c3
    · rw[if_neg (by omega)]at hT
      simp[go_sem,hhs,c3]
      refine cpu hput ?_
      by_cases c2:k=0
      · rw[if_pos c2]at hT
        rw[← hT]
        simp[go_sem,c2]
        refine PostR.ret ?_
        simp[go_sem,yfw,room,roomC,rowsA]
      · have g2:(k==0)=false:=beq_eq_false_iff_ne.2 c2
        rw[if_neg c2]at hT
        rw[← hT]
        simp[go_sem,c2,g2]
        refine PostR.ret ?_
        simp[go_sem,yfw,room,roomC,rowsA]
    · rw[if_pos (by omega)]at hT
      rw[← hT]
      simp[go_sem,hhs,c3]
      refine PostR.ret ?_
      simp[go_sem,yfw,room,roomC,rowsA]
   | true =>
    rw[hrd,if_pos rfl]at hT
    simp[go_sem,hhs]
    have hadd:=zbl putC r x hok hxs (hU.md x hxU) (hr.put hU hxU)
    have hR1:=hr.add hU hxU
    unfold takeR at hT
    obtain⟨R1,hR1e⟩:∃ R1,addR r x=R1:=⟨_,rfl⟩
    rw[hR1e]at hT hR1 hadd
    obtain⟨R1,k1⟩:=R1
    unfold room roomC rowsA roomI at hadd
    simp only at hT hR1 hadd
    refine cpu hadd ?_
    by_cases c4:k1=0
    case neg =>
     have g4:(k1 != 0)=true:=bne_iff_ne.2 c4
     rw[if_pos c4]at hT
     rw[← hT]
     simp[go_sem,room,roomC,rowsA,c4,g4]
     refine PostR.ret ?_
     simp[go_sem,yfw,room,roomC,rowsA]
    rw[if_neg (not_not_intro c4)]at hT
    simp[go_sem,room,roomC,rowsA,c4]
    have hset:=yis U hU (K+1) (by omega) R1 hR1
    have hR2:=hR1.settle hU
    obtain⟨R2,hR2e⟩:∃ R2,yiv R1=R2:=⟨_,rfl⟩
    rw[hR2e]at hT hset hR2
    unfold room roomC rowsA at hset
    refine cpu hset ?_
    simp[go_sem]
    have hrow2:=row_ac R2 x.id (by have:=hR2.rows;omega)
    unfold room roomC rowsA zuy at hrow2
    obtain⟨w2,hw2⟩:∃ w2,(rowOf R2 x.id).getD rowZ=w2:=⟨_,rfl⟩
    have hst2:stOf R2 x.id=w2.status:=by unfold stOf;rw[hw2]
    rw[hw2]at hrow2
    rw[hst2]at hT
    refine cpu hrow2 ?_
    unfold rowC
    simp[go_sem]
    refine AWp.drawText [] [4] [] [] rfl (by kernel_rfl) (fun d d' h=>h) ?_
    simp[go_sem]
    refine PostR.ret ?_
    rw[← hT]
    simp[go_sem,yfw,room,roomC,rowsA]
    exact fun a _=>rfl
def cmpF:AV:=.fn (.func 173) [] []
theorem zx9:Pure cmpF:=zym (fun c h=>by cases h) fun c h=>by cases h
theorem zxz:PureR (.tup []):=by
 intro r hr
 simp at hr
theorem len8_one:Lib.len8tab[(IntKind.u8.wrap 1).toNat]? = some 1:=by decide +kernel
theorem wi1:IntKind.i64.wrap 1=1:=by decide
theorem wi0:IntKind.i64.wrap 0=0:=by decide
theorem wu1:IntKind.u64.wrap 1=1:=by decide
theorem len64_ac  : AC prog 236 [.v (.int .u64 1)] (I 1):=by
 refine AC.ob func236 ntmps236 results236 (zzi (zzh _)) (zx1 _) fun w S'=>AWp.of_vc [] ?_
 simp[go_sem,len8_one,wi1]
 refine PostR.ret ?_
 simp[go_sem,wi1]
theorem zez  : AC prog 177 [.v (.int .u64 1)] (I 1):=by
 refine AC.ob func177 ntmps177 results177 (zzi (zzh _)) (zx1 _) fun w S'=>AWp.of_vc [] ?_
 simp[go_sem]
 refine cpu len64_ac ?_
 simp[go_sem]
 exact rets
theorem ins1_ac (p:Evt):AC prog 254 [evs [p],I 0,I 1,cmpF] (.tup []):=by
 refine AC.ob func254 ntmps254 results254 (zzl (zyk _) (zx1 _) (zx1 _) zx9) (zxz) fun w S'=>AWp.of_vc [] ?_
 simp[go_sem]
 refine AWp.loop_vc [] (fun m s=>s.σ 8=I 1∧s.σ 2=I 1) 0 (by simp[go_sem,wi1]) ?_
 rintro m s ⟨i8,i2⟩
 simp[go_sem,i8,i2]
 exact rets
theorem pdq1_ac (p:Evt):AC prog 224 [evs [p],I 0,I 1,I 1,cmpF] (.tup []):=by
 refine AC.ob func224 ntmps224 results224 (zzm (zyk _) (zx1 _) (zx1 _) (zx1 _) zx9) (zxz) fun w S'=>AWp.of_vc [] ?_
 simp[go_sem]
 refine AWp.loop_vc [] (fun m s=>s.σ 0=evs [p]∧s.σ 1=I 0∧s.σ 2=I 1∧s.σ 3=I 1∧s.σ 4=cmpF) 0 (by simp[go_sem,cmpF]) ?_
 rintro m s ⟨i0,i1,i2,i3,i4⟩
 simp[go_sem,i0,i1,i2,i3,i4]
 refine cpu (ins1_ac p) ?_
 simp[go_sem]
 exact rets
theorem sort1_ac (p:Evt):AC prog 172 [evs [p],cmpF] (.tup []):=by
 refine AC.ob func172 ntmps172 results172 (zzj (zyk _) zx9) (zxz) fun w S'=>AWp.of_vc [] ?_
 simp[go_sem,wu1]
 refine cpu zez ?_
 simp[go_sem]
 refine cpu (pdq1_ac p) ?_
 simp[go_sem]
 exact rets
theorem last_ac (l:List Evt) (h:Int) (p:Evt) (hl:l.length≤1000) (hg:getE l h=some p):AC prog 112 [evs l,ints [h]] (evs [p]):=by
 refine AC.ob func112 ntmps112 results112 (zzj (zyk _) (zyr _)) (zw5 _) fun w S'=>AWp.of_vc [7,1000002,1000005] ?_
 have hof:zsz l [h]=[p]:=by unfold zsz;rw[List.filterMap_cons,hg];rfl
 have hoa:=sof_ac l [h] (by simp)
 rw[hof]at hoa
 simp[go_sem]
 refine cpu hoa ?_
 simp[go_sem]
 refine AWp.region [] ?_
 simp[go_sem]
 refine CallSem.lent (r:=.tup []) ?_ ?_ (by simp[go_sem]) ?_
 · exact sort1_ac p
 · exact fun x hx=>by cases hx
 simp[go_sem]
 refine AWp.freeze 10 ?_
 refine AWp.region [] ?_
 simp[go_sem,wi0,wi1,zja,zje]
 refine PostR.retW [17] (r0:=evs [p]) (by simp[go_sem]) (.refl _)
def zl7 (room:Bytes) (p e:Evt):Evt:={ e with room:=room,state:=ykd e.kind,depth:=p.depth+1,prev:=[p.id] }
def zl6 (room:Bytes) (C:List EntD) (p e:Evt):Evt:={ zl7 room p e with auth:=selOf (zl7 room p e) C }
def zl5 (e:Evt) (C:List EntD):AV:=.tup [ev e,ents C,I 0]
theorem zw8 (e:Evt) (C:List EntD):PureR (zl5 e C):=by
 intro r hr
 simp only[List.mem_cons,List.not_mem_nil,or_false]at hr
 rcases hr with rfl|rfl|rfl
 · exact zyh _
 · exact zye _
 · exact zx1 _
theorem zjc (x:Evt):∀ c∈evc x,zv6 c=true:=List.all_eq_true.1 (show (evc x).all zv6=true from rfl)
theorem yi7 (e:Evt) (hs:SmE e) (hn:e.sender.length≤1000000):AC prog 67 [ev e] (ev (signE e (srvOf e.sender))):=by
 refine AC.ob func67 ntmps67 results67 (zzi (zyh _)) (zyh _) fun w S'=>AWp.of_vc [1] ?_
 have hsv:=yj6 e.sender (by omega)
 have hsg:=sign_ac e (srvOf e.sender) hs
 simp[go_sem]
 refine AWp.drawText [] [2] [] [] rfl (by kernel_rfl) (fun d d' h=>h) ?_
 simp[go_sem]
 refine CalmThen.pure (r:=S (srvOf e.sender)) hsv rfl ?_
 simp[go_sem]
 refine⟨zjc e,?_⟩
 refine CalmThen.pure (r:=ev (signE e (srvOf e.sender))) hsg rfl ?_
 simp[go_sem]
 exact rets
theorem frame_ac (l:List Evt) (hl:Good l) (x:Evt) (hx:l[0]? = some x) (A:List Int) (hA:zbh l=A) (hA0:A≠[]) (h:Int) (hh:headsOf l A=[h]) (p:Evt) (hg:getE l h=some p) (hd:0≤p.depth) (hd2:p.depth≤1000) (C:List EntD) (hC:zhp l=C) (e:Evt):AC prog 68 [evs l,ev e] (zl5 (zl6 x.room C p e) C):=by
 refine AC.ob func68 ntmps68 results68 (zzj (zyk _) (zyh _)) (zw8 _ _) fun w S'=>AWp.of_vc [3,1000014,1000015] ?_
 have hll:=hl.fit.len
 have hacc:=zbi l hl
 have hcur:=zhq l hl
 have hAl:=zbj l
 rw[hA]at hacc hAl
 rw[hC]at hcur
 have hhd:=zni l A hl.fit (by omega)
 rw[hh]at hhd
 have hlast:=last_ac l h p (by omega) hg
 have hids:=sids_ac [p] (by simp)
 have h0l:0 < l.length:=by
  cases l with
  | nil=>cases hx
  | cons a l=>simp
 have hx0:l[0]=x:=by rw[List.getElem?_eq_getElem h0l]at hx;exact Option.some.inj hx
 have hA1:¬ (A.length:Int)=0:=by
  intro h0
  have:A.length=0:=by omega
  exact hA0 (List.length_eq_zero_iff.1 this)
 have hA2:((A.length:Int)==0)=false:=beq_eq_false_iff_ne.2 hA1
 simp[go_sem]
 refine cpu hacc ?_
 simp[go_sem,hA1,hA2,hA0]
 refine cpu hhd ?_
 simp[go_sem]
 refine cpu hlast ?_
 simp[go_sem]
 refine AWp.drawDeep [] [] [3] [28] [0,1,2,3,4,5,6,7,8,9,10,11,12] rfl (by kernel_rfl) (fun d d' h=>h) rfl ?_
 simp[go_sem,h0l,hx0]
 refine CalmThen.pure (ykg e.kind) rfl ?_
 simp[go_sem,evc]
 refine AWp.loop_vc [] (fun m s=>∃ q:Nat,q≤1∧m=1 - q∧s.σ 0=evs l∧s.σ 8=evs [p]∧s.σ 33=evs [p]∧s.σ 34=I 1∧s.σ 35=I q∧s.σ 3=.rptr 3 (s.ver 3) 0 0∧s.h 3=.box (evc { e with room:=x.room,state:=ykd e.kind,depth:=if q=0 then 1 else p.depth+1 })∧s.σ 4=.rptr 4 (s.ver 4) 0 0∧s.h 4=.box evZc) 1 ⟨0,by simp[go_sem,evc,evZc]⟩ ?_
 rintro m s ⟨q,hq,rfl,i0,i8,i33,i34,i35,i3,k3,i4,k4⟩
 rcases (by omega:q=0∨q=1) with rfl|rfl
 · simp only[if_true]at k3
   unfold evc at k3
   have hw1:IntKind.i64.wrap (p.depth+1)=p.depth+1:=wrapB (by omega) (by omega)
   have hmx:max (1:Int) (p.depth+1)=p.depth+1:=by omega
   simp[go_sem,i0,i8,i33,i34,i35,i3,k3,i4,k4,wi1,hw1,hmx,evc]
   exact⟨1,by omega,by omega,rfl,by rw[if_neg (show ¬ (1:Nat)=0 by decide)];split<;>omega⟩
 · simp only[if_neg (show ¬ (1:Nat)=0 by decide)]at k3
   unfold evc at k3
   unfold evZc at k4
   have hdd:¬ (100000:Int) < p.depth+1:=by omega
   simp[go_sem,i0,i8,i33,i34,i35,i3,k3,i4,k4,hdd]
   refine cpu hids ?_
   have hd1:idsE [p]=[p.id]:=rfl
   rw[hd1]
   simp[go_sem,i0,i8,i33,i34,i35,i3,k3,i4,k4,hdd]
   refine AWp.region [] ?_
   simp[go_sem,i0,i8,i33,i34,i35,i3,k3,i4,k4,hdd]
   refine CallSem.sortInts (ρ:=laysSort_ren) (id:=52) (e:=3) (l:=[p.id]) laysSort ⟨_,func114,rfl,rfl⟩ (by simp[go_sem]) (by simp[go_sem,Function.comp_def];try rfl) (by simp[go_sem]) (by simp) ?_
   rw[List.mergeSort_singleton]
   simp[go_sem,i0,i8,i33,i34,i35,i3,k3,i4,k4,hdd]
   refine AWp.freeze 52 ?_
   refine AWp.region [] ?_
   simp[go_sem,i0,i8,i33,i34,i35,i3,k3,i4,k4,hdd]
   refine cpu hcur ?_
   simp[go_sem,i0,i8,i33,i34,i35,i3,k3,i4,k4,hdd]
   have hsel:=sel_ac (zl7 x.room p e) C
   refine cpu hsel ?_
   simp[go_sem,i0,i8,i33,i34,i35,i3,k3,i4,k4,hdd]
   refine PostR.ret ?_
   simp[go_sem,i4,zl5,zl6,zl7,evc]
def rawE (u:Bytes) (k:Int) (key:Bytes) (c:Content) (tm:Int):Evt:=⟨0,[],u,k,false,key,tm,0,[],[],c,0,⟨[],0⟩⟩
theorem next_ac (l:List Evt) (hl:Good l) (x:Evt) (hx:l[0]? = some x) (A:List Int) (hA:zbh l=A) (hA0:A≠[]) (h:Int) (hh:headsOf l A=[h]) (p:Evt) (hg:getE l h=some p) (hd:0≤p.depth) (hd2:p.depth≤1000) (C:List EntD) (hC:zhp l=C) (u:Bytes) (k:Int) (key:Bytes) (c:Content) (tm:Int) (f:Evt) (hf:zl6 x.room C p (rawE u k key c tm)=f) (hsm:SmE f) (hmo:Mod f) (hck:zgg f=0) (hal:zcp f (eventsOf l C)=0) (hsn:f.sender.length≤1000000):AC prog 39 [evs l,S u,I k,S key,.agg (ctc c),I tm] (evI (signE f (srvOf f.sender),0)):=by
 refine AC.ob func39 ntmps39 results39 (zzn (zyk _) (zzm (zx2 _) (zx1 _) (zx2 _) (zya _) (zx1 _))) (zw4 _) fun w S'=>AWp.of_vc [10] ?_
 have hfr:=frame_ac l hl x hx A hA hA0 h hh p hg hd hd2 C hC (rawE u k key c tm)
 rw[hf]at hfr
 unfold zl5 at hfr
 have hChk:=zgh f hsm
 rw[hck]at hChk
 have hCl:C.length≤14:=by
  have:=(zhr l).len
  have:=hl.fit.len
  rw[hC]at *
  omega
 have hev:=zji l C (by omega)
 have hel:(eventsOf l C).length≤C.length:=List.length_filterMap_le _ _
 have hall:=zcq f (eventsOf l C) (hl.sub (fun x hx=>zjg hx) (by omega)) hsm hmo
 rw[hal]at hall
 have hsg:=yi7 f hsm hsn
 simp[go_sem,ctc,lvsc]
 refine CallSem.by hfr ⟨.refl _,.agg ⟨.refl _,.refl _,.refl _,.refl _,.refl _,.refl _,.refl _,.refl _,.nil _,.nil _,.refl _,.refl _,.refl _,.refl _,.refl _,.refl _,.refl _,.refl _,.refl _,.refl _,.refl _,.refl _,.refl _,.refl _,.refl _,.refl _,.refl _,.refl _,.refl _,trivial⟩,trivial⟩ (by simp[go_sem]) ?_
 simp[go_sem]
 refine cpu hChk ?_
 simp[go_sem]
 refine da ?_
 simp[go_sem]
 refine CalmThen.pure (r:=evs (eventsOf l C)) hev rfl ?_
 simp[go_sem]
 refine CalmThen.pure (r:=I 0) hall rfl ?_
 simp[go_sem]
 refine cpu hsg ?_
 simp[go_sem]
 refine PostR.ret ?_
 simp[go_sem,evI]
def zk0 (room u:Bytes) (tm:Int):Evt:=⟨0,room,u,1,true,[],tm,1,[],[],⟨[],0,0,false,[],[],[],⟨[],[],0,0,0,0,0,0,0⟩⟩,0,⟨[],0⟩⟩
def firstC (room u:Bytes) (tm:Int):List AV:=[I 0,S room,S u,I 1,B true,S [],I tm,I 1,.v (.slice none 0 0),.v (.slice none 0 0),S [],I 0,I 0,B false,S [],.v (.slice none 0 0),.v (.slice none 0 0),.v (.slice none 0 0),.v (.slice none 0 0),I 0,I 0,I 0,I 0,I 0,I 0,I 0,I 0,S [],I 0]
theorem wk_first (room u:Bytes) (tm:Int):WkL0 (firstC room u tm) (evc (zk0 room u tm)):=⟨.refl _,.refl _,.refl _,.refl _,.refl _,.refl _,.refl _,.refl _,.nil _,.nil _,.refl _,.refl _,.refl _,.refl _,.refl _,.nil _,.nil _,.nil _,.nil _,.refl _,.refl _,.refl _,.refl _,.refl _,.refl _,.refl _,.refl _,.refl _,.refl _,trivial⟩
theorem zd9:AuthOk []:=⟨fun e he=>(by cases he),fun e he=>(by cases he),by simp⟩
theorem zk1 (room u:Bytes) (tm:Int) (f:Evt) (hf:zk0 room u tm=f) (hsm:SmE f) (hmo:Mod f) (hck:zgg f=0) (hal:zcp f []=0) (hsn:f.sender.length≤1000000):AC prog 37 [S room,S u,I tm] (evI (signE f (srvOf f.sender),0)):=by
 refine AC.ob func37 ntmps37 results37 (zzk (zx2 _) (zx2 _) (zx1 _)) (zw4 _) fun w S'=>AWp.of_vc [] ?_
 have hChk:=zgh f hsm
 rw[hck]at hChk
 have hall:=zcq f [] zd9 hsm hmo
 rw[hal]at hall
 have hsg:=yi7 f hsm hsn
 have hw:=wk_first room u tm
 rw[hf]at hw
 unfold firstC at hw
 simp[go_sem]
 refine CallSem.by hChk ⟨.agg hw,trivial⟩ (by simp[go_sem]) ?_
 simp[go_sem]
 refine CallSem.by hall ⟨.agg hw,.nil _,trivial⟩ (by simp[go_sem]) ?_
 simp[go_sem]
 refine CallSem.by hsg ⟨.agg hw,trivial⟩ (by simp[go_sem]) ?_
 simp[go_sem]
 refine PostR.ret ?_
 simp[go_sem,evI]
end Go.Proofs.YthjmjdleecmaeaaGreat
