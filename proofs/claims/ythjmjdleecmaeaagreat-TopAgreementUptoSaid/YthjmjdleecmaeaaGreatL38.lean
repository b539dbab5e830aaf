/- Several texts of the proof in one: B36, B38, B39. No condition. -/
import Derived.Test.YthjmjdleecmaeaaGreatL37
set_option linter.unusedSimpArgs false
set_option linter.unusedVariables false
set_option maxHeartbeats 4000000
set_option maxRecDepth 8000
namespace Go.Proofs.YthjmjdleecmaeaaGreat
open Go Go.Abs Go.Proofs.Tryz
def putE (l:List Evt) (e:Evt):List Evt×Int :=
 if l.any (fun x=>x.room != e.room)=true then ([],13) else
 match getE l e.id with
 | none=>if 2000≤l.length then ([],29) else (l.takeWhile (fun x=>decide (x.id < e.id))++e::l.dropWhile (fun x=>decide (x.id < e.id)),0)
 | some x=>(if yra e=true∧yra x=false then l.set (idxI (fun x=>x.id==e.id) l).toNat e else l,0)
def evsI (p:List Evt×Int):AV:=.tup [evs p.1,I p.2]
theorem zw7 (p:List Evt×Int):PureR (evsI p):=by
 intro r hr
 simp only[List.mem_cons,List.not_mem_nil,or_false]at hr
 rcases hr with rfl|rfl
 · exact zyk _
 · exact zx1 _
def PutC:Prop:=∀ (l:List Evt) (e:Evt),(∀ x∈l,SmE x)→SmE e→l.length≤1000→AC prog 25 [evs l,ev e] (evsI (putE l e))
theorem zxb (e:Nat) (l:List RowD):PureR (.fresh e 4 (l.map fun r=>.agg (rowC r))):=by
 intro x hx c hc
 obtain⟨n,_,rfl⟩:=List.mem_map.1 hx
 exact zza n c hc
theorem zgo (l:List RowD) (hsz:l.length≤1000000000):AC prog 52 [rowsA l] (.fresh 48 4 (l.map fun r=>.agg (rowC r))):=by
 refine AC.ob func52 ntmps52 results52 (zzi (zzb _)) (zxb _ _) fun w S'=>AWp.of_vc [5] ?_
 have hok:∀ st,okAll st (l.map fun r=>.agg (rowC r)):=fun st c hc=>by obtain⟨n,_,rfl⟩:=List.mem_map.1 hc;rfl
 simp[go_sem,rowsA,hok]
 refine⟨?_,?_⟩
 · refine⟨⟨by omega,by omega⟩,?_⟩
   exact rets
 · rintro rfl
   refine PostR.retW [] (r0:=.v (.slice none 0 0)) ?_ (.fresh _ _)
   simp[go_sem]
def ykj (r:RoomD) (l:List Evt) (e:Evt) (at':Int):Int:=if at'≠4 then 2 else if zcp e (eventsOf r.events r.state)≠0 then 3 else 4
noncomputable def addR (r:RoomD) (e:Evt):RoomD×Int :=
 if 2000≤r.events.length then (r,29) else
 if (putE r.events e).2≠0 then (r,(putE r.events e).2) else
 if zh9 (putE r.events e).1≠0 then (r,15) else
 if 0 < zej r.events∧zej r.events < zej (putE r.events e).1 then (r,17) else
 ({ r with events:=(putE r.events e).1,rows:=r.rows++[⟨r.next,e.id,ykj r (putE r.events e).1 e (atS (putE r.events e).1 e.id).2,false⟩],heads:=znf (putE r.events e).1,state:=zhp (putE r.events e).1,next:=r.next+1 },0)
structure RoomOk (r:RoomD):Prop where
 good:Good r.events
 st:r.state.length≤14
 rows:r.rows.length≤1000
 n0:0≤r.next
 n1:r.next≤1000
theorem zbl (hput:PutC) (r:RoomD) (e:Evt) (hr:RoomOk r) (he:SmE e) (hm:Mod e) (hg:Good (putE r.events e).1):AC prog 27 [room r,ev e] (roomI (addR r e)):=by
 refine AC.ob func27 ntmps27 results27 (zzj (zy8 _) (zyh _)) (zxo _) fun w S'=>AWp.of_vc [2,70] ?_
 have hll:=hr.good.fit.len
 obtain⟨o,ho⟩:∃ o,addR r e=o:=⟨_,rfl⟩
 rw[ho]
 unfold addR at ho
 rw[if_neg (by omega)]at ho
 have hpac:=hput r.events e hr.good.ok.sm he (by omega)
 generalize putE r.events e=p at hpac ho hg
 obtain⟨l2,n2⟩:=p
 simp only at ho hg
 unfold evsI at hpac
 have hllI:¬ (2000:Int)≤r.events.length:=by omega
 simp[go_sem,room,roomC,rowsA,hllI]
 refine cpu hpac ?_
 by_cases c1:n2=0
 case neg =>
  have g1:(n2 != 0)=true:=bne_iff_ne.2 c1
  rw[if_pos c1]at ho
  rw[← ho]
  simp[go_sem,c1,g1]
  refine PostR.ret ?_
  simp[go_sem,roomI,room,roomC,rowsA]
 rw[if_neg (not_not_intro c1)]at ho
 simp[go_sem,c1]
 refine cpu (zia l2 hg.fit) ?_
 by_cases c2:zh9 l2=0
 case neg =>
  have g1:(zh9 l2 != 0)=true:=bne_iff_ne.2 c2
  rw[if_pos c2]at ho
  rw[← ho]
  simp[go_sem,c2,g1]
  refine PostR.ret ?_
  simp[go_sem,roomI,room,roomC,rowsA]
 rw[if_neg (not_not_intro c2)]at ho
 rw[c2]
 simp[go_sem]
 refine cpu (zek r.events hr.good) ?_
 obtain⟨b1,hb1⟩:∃ b1,zej r.events=b1:=⟨_,rfl⟩
 rw[hb1]at ho ⊢
 have hcase:(¬ 0 < b1)∨(0 < b1∧¬ b1 < zej l2)∨(0 < b1∧b1 < zej l2):=by omega
 rcases hcase with c3|⟨c3,c4⟩|⟨c3,c4⟩
 case inr.inr =>
  rw[if_pos ⟨c3,c4⟩]at ho
  rw[← ho]
  simp[go_sem,c3]
  refine cpu (zek l2 hg) ?_
  simp[go_sem,c4]
  refine PostR.ret ?_
  simp[go_sem,roomI,room,roomC,rowsA]
 case inr.inl =>
  rw[if_neg (fun h=>c4 h.2)]at ho
  simp[go_sem,c3]
  refine cpu (zek l2 hg) ?_
  simp[go_sem,c4]
  refine cpu (at_ac2 l2 e.id hg) ?_
  unfold stI
  obtain⟨v,hv⟩:∃ v,(atS l2 e.id).2=v:=⟨_,rfl⟩
  rw[hv]at ho ⊢
  by_cases c5:v=4
  · simp[go_sem,c5]
    refine da ?_
    simp[go_sem]
    refine CalmThen.pure (zji r.events r.state (by have:=hr.st;omega)) rfl ?_
    have hel:(eventsOf r.events r.state).length≤r.state.length:=List.length_filterMap_le _ _
    simp[go_sem]
    refine CalmThen.pure (zcq e (eventsOf r.events r.state) (hr.good.sub (fun x hx=>zjg hx) (by have:=hr.st;omega)) he hm) rfl ?_
    obtain⟨a,ha⟩:∃ a,zcp e (eventsOf r.events r.state)=a:=⟨_,rfl⟩
    rw[ha]
    by_cases c6:a=0
    · have hst:ykj r l2 e v=4:=by unfold ykj;rw[if_neg (not_not_intro c5),ha,if_neg (not_not_intro c6)]
      rw[hst]at ho
      simp[go_sem,c6]
      refine AWp.drawAny [70] [70] [2] [69] [0,1,3,4,2,5,6,7] rfl (by kernel_rfl) (fun d d' h=>h) rfl ?_
      simp[go_sem]
      refine OwnCall.fresh (zgo r.rows (by have:=hr.rows;omega)) (by simp) ?_
      simp[go_sem]
      have hrl:=hr.rows
      have hn0:=hr.n0
      have hn1:=hr.n1
      have hwn:IntKind.i64.wrap (r.next+1)=r.next+1:=wrapB (by omega) (by omega)
      refine⟨⟨by omega,by omega⟩,?_⟩
      refine cpu (zng l2 hg) ?_
      simp[go_sem]
      refine cpu (zhq l2 hg) ?_
      simp[go_sem,hwn]
      rw[← ho]
      refine PostR.retW [70] (r0:=roomI _) ?_ (.refl _)
      simp[go_sem,roomI,room,roomC,rowsA,rowC]
      done
    · have g6:(a != 0)=true:=bne_iff_ne.2 c6
      have hst:ykj r l2 e v=3:=by unfold ykj;rw[if_neg (not_not_intro c5),ha,if_pos c6]
      rw[hst]at ho
      simp[go_sem,c6,g6]
      refine AWp.drawAny [70] [70] [2] [69] [0,1,3,4,2,5,6,7] rfl (by kernel_rfl) (fun d d' h=>h) rfl ?_
      simp[go_sem]
      refine OwnCall.fresh (zgo r.rows (by have:=hr.rows;omega)) (by simp) ?_
      simp[go_sem]
      have hrl:=hr.rows
      have hn0:=hr.n0
      have hn1:=hr.n1
      have hwn:IntKind.i64.wrap (r.next+1)=r.next+1:=wrapB (by omega) (by omega)
      refine⟨⟨by omega,by omega⟩,?_⟩
      refine cpu (zng l2 hg) ?_
      simp[go_sem]
      refine cpu (zhq l2 hg) ?_
      simp[go_sem,hwn]
      rw[← ho]
      refine PostR.retW [70] (r0:=roomI _) ?_ (.refl _)
      simp[go_sem,roomI,room,roomC,rowsA,rowC]
      done
  · have g5:(v != 4)=true:=bne_iff_ne.2 c5
    have hst:ykj r l2 e v=2:=by unfold ykj;rw[if_pos c5]
    rw[hst]at ho
    simp[go_sem,c5,g5]
    refine AWp.drawAny [70] [70] [2] [69] [0,1,3,4,2,5,6,7] rfl (by kernel_rfl) (fun d d' h=>h) rfl ?_
    simp[go_sem]
    refine OwnCall.fresh (zgo r.rows (by have:=hr.rows;omega)) (by simp) ?_
    simp[go_sem]
    have hrl:=hr.rows
    have hn0:=hr.n0
    have hn1:=hr.n1
    have hwn:IntKind.i64.wrap (r.next+1)=r.next+1:=wrapB (by omega) (by omega)
    refine⟨⟨by omega,by omega⟩,?_⟩
    refine cpu (zng l2 hg) ?_
    simp[go_sem]
    refine cpu (zhq l2 hg) ?_
    simp[go_sem,hwn]
    rw[← ho]
    refine PostR.retW [70] (r0:=roomI _) ?_ (.refl _)
    simp[go_sem,roomI,room,roomC,rowsA,rowC]
    done
 case inl =>
  rw[if_neg (fun h=>c3 h.1)]at ho
  simp[go_sem,c3]
  refine cpu (at_ac2 l2 e.id hg) ?_
  unfold stI
  obtain⟨v,hv⟩:∃ v,(atS l2 e.id).2=v:=⟨_,rfl⟩
  rw[hv]at ho ⊢
  by_cases c5:v=4
  · simp[go_sem,c5]
    refine da ?_
    simp[go_sem]
    refine CalmThen.pure (zji r.events r.state (by have:=hr.st;omega)) rfl ?_
    have hel:(eventsOf r.events r.state).length≤r.state.length:=List.length_filterMap_le _ _
    simp[go_sem]
    refine CalmThen.pure (zcq e (eventsOf r.events r.state) (hr.good.sub (fun x hx=>zjg hx) (by have:=hr.st;omega)) he hm) rfl ?_
    obtain⟨a,ha⟩:∃ a,zcp e (eventsOf r.events r.state)=a:=⟨_,rfl⟩
    rw[ha]
    by_cases c6:a=0
    · have hst:ykj r l2 e v=4:=by unfold ykj;rw[if_neg (not_not_intro c5),ha,if_neg (not_not_intro c6)]
      rw[hst]at ho
      simp[go_sem,c6]
      refine AWp.drawAny [70] [70] [2] [69] [0,1,3,4,2,5,6,7] rfl (by kernel_rfl) (fun d d' h=>h) rfl ?_
      simp[go_sem]
      refine OwnCall.fresh (zgo r.rows (by have:=hr.rows;omega)) (by simp) ?_
      simp[go_sem]
      have hrl:=hr.rows
      have hn0:=hr.n0
      have hn1:=hr.n1
      have hwn:IntKind.i64.wrap (r.next+1)=r.next+1:=wrapB (by omega) (by omega)
      refine⟨⟨by omega,by omega⟩,?_⟩
      refine cpu (zng l2 hg) ?_
      simp[go_sem]
      refine cpu (zhq l2 hg) ?_
      simp[go_sem,hwn]
      rw[← ho]
      refine PostR.retW [70] (r0:=roomI _) ?_ (.refl _)
      simp[go_sem,roomI,room,roomC,rowsA,rowC]
      done
    · have g6:(a != 0)=true:=bne_iff_ne.2 c6
      have hst:ykj r l2 e v=3:=by unfold ykj;rw[if_neg (not_not_intro c5),ha,if_pos c6]
      rw[hst]at ho
      simp[go_sem,c6,g6]
      refine AWp.drawAny [70] [70] [2] [69] [0,1,3,4,2,5,6,7] rfl (by kernel_rfl) (fun d d' h=>h) rfl ?_
      simp[go_sem]
      refine OwnCall.fresh (zgo r.rows (by have:=hr.rows;omega)) (by simp) ?_
      simp[go_sem]
      have hrl:=hr.rows
      have hn0:=hr.n0
      have hn1:=hr.n1
      have hwn:IntKind.i64.wrap (r.next+1)=r.next+1:=wrapB (by omega) (by omega)
      refine⟨⟨by omega,by omega⟩,?_⟩
      refine cpu (zng l2 hg) ?_
      simp[go_sem]
      refine cpu (zhq l2 hg) ?_
      simp[go_sem,hwn]
      rw[← ho]
      refine PostR.retW [70] (r0:=roomI _) ?_ (.refl _)
      simp[go_sem,roomI,room,roomC,rowsA,rowC]
      done
  · have g5:(v != 4)=true:=bne_iff_ne.2 c5
    have hst:ykj r l2 e v=2:=by unfold ykj;rw[if_pos c5]
    rw[hst]at ho
    simp[go_sem,c5,g5]
    refine AWp.drawAny [70] [70] [2] [69] [0,1,3,4,2,5,6,7] rfl (by kernel_rfl) (fun d d' h=>h) rfl ?_
    simp[go_sem]
    refine OwnCall.fresh (zgo r.rows (by have:=hr.rows;omega)) (by simp) ?_
    simp[go_sem]
    have hrl:=hr.rows
    have hn0:=hr.n0
    have hn1:=hr.n1
    have hwn:IntKind.i64.wrap (r.next+1)=r.next+1:=wrapB (by omega) (by omega)
    refine⟨⟨by omega,by omega⟩,?_⟩
    refine cpu (zng l2 hg) ?_
    simp[go_sem]
    refine cpu (zhq l2 hg) ?_
    simp[go_sem,hwn]
    rw[← ho]
    refine PostR.retW [70] (r0:=roomI _) ?_ (.refl _)
    simp[go_sem,roomI,room,roomC,rowsA,rowC]
    done
end Go.Proofs.YthjmjdleecmaeaaGreat
namespace Go.Abs
open Go Go.RowKit Go.Proofs.Tryz
section
variable {G:Ctx} {st:St} {E:Env} {a:Act}
theorem VRs.app {p q:List AV} {u v:List Value} (h1:VRs E p u) (h2:VRs E q v):VRs E (p++q) (u++v):=by
 refine⟨by simp[h1.1,h2.1],fun k c x hc hx=>?_⟩
 by_cases hk:k < p.length
 · rw[List.getElem?_append_left hk]at hc
   rw[List.getElem?_append_left (by rw[← h1.1];exact hk)]at hx
   exact h1.2 k c x hc hx
 · rw[List.getElem?_append_right (by omega)]at hc
   rw[List.getElem?_append_right (by rw[← h1.1];omega),← h1.1]at hx
   exact h2.2 _ c x hc hx
theorem VRs.take {p:List AV} {u:List Value} (h:VRs E p u) (n:Nat):VRs E (p.take n) (u.take n):=by
 refine⟨by simp[h.1],fun k c x hc hx=>?_⟩
 rw[List.getElem?_take]at hc hx
 split at hc
 · rename_i hk
   rw[if_pos hk]at hx
   exact h.2 k c x hc hx
 · cases hc
theorem VRs.drop {p:List AV} {u:List Value} (h:VRs E p u) (n:Nat):VRs E (p.drop n) (u.drop n):=by
 refine⟨by simp[h.1],fun k c x hc hx=>?_⟩
 rw[List.getElem?_drop]at hc hx
 exact h.2 _ c x hc hx
theorem Rel.rearr (hr:Rel G st E a) {id e sz:Nat} {xs ys:List AV} (hh:st.h id=.arr e sz xs) {w':World} (hg:E.w.grownBy w' (E.own id).val.ownBlock) {us':List Value} (hlen:∀ y∈ys,y.cells.length=sz) (hys:VRs E (ys.flatMap AV.cells) us')
 {v':Value} (hown:w'.ownsRowW G.w0.heap.size e sz v' ys.length us') (hob:∀ b,v'.ownBlock=some b→(E.own id).val.ownBlock=some b∨E.w.heap.size≤b) :
 ∃ E',E'.w=w'∧Rel G (st.setArr id e sz ys) E' a∧VR E' (.ref id (st.ver id+1)) v':=by
 have hbl:=hr.blocks id
 rw[hh]at hbl
 obtain⟨hsz,us,hown0,hlen0,hvs0,hblk0⟩:=hbl
 let o:Own:=⟨v',(v'.ownBlock).getD 0,sz⟩
 let E':Env:={ ver:=upd E.ver id (st.ver id+1),own:=upd E.own id o,S:=E.S,w:=w' }
 have hve:E.ver id=st.ver id:=by rw[hr.ver]
 have hle:E.Le E':=by
  refine⟨fun _ h=>h,fun b hb=>hg.block b (hr.Slt b hb) fun he=>?_,fun j=>by by_cases h:j=id<;>simp[E',upd,h,hve],fun j hj=>?_⟩
  · exact (hblk0 b he.symm).2 hb
  · by_cases h:j=id
    · subst h;simp[E',upd,hve]at hj
    · simp[E',upd,h]
 have hat:∀ b,(E.own id).val.ownBlock=some b→(st.h id).at (E.own id)=some b:=fun b hb=>by rw[hh];exact hb
 refine⟨E',rfl,?_,.ref _ _ _ (by simp[E',upd]) fun _=>by simp[E',upd,o]⟩
 refine hr.own id (.arr e sz ys) o (st.ver id+1) rfl (by omega) rfl (fun h=>by omega) rfl (hr.below.grown hg hr.below.size fun k hk=>(hown0.lt k hk).1) hg.size (fun b hb hne=>hg.block b hb fun he=>hne (hat b he.symm)) ?_ (fun b hb=>(hob b hb).imp (hat b) fun h=>h)
 refine⟨rfl,us',hown,hlen,hys.mono hle,fun b hb=>⟨by simp only[o]at hb ⊢;rw[hb];rfl,fun hS=>?_⟩⟩
 rcases hob b hb with h|h
 · exact (hblk0 b h).2 hS
 · have:=hr.Slt b hS;omega
theorem VRs.one (hr:Rel G st E a) {ys:List AV} {us:List Value} (h:VRs E (ys.flatMap AV.cells) us) (hok:∀ c∈ys,zth st c=true):∀ u∈us,u.oneCell'=true:=by
 intro u hu'
 obtain⟨k,hk⟩:=List.mem_iff_getElem?.1 hu'
 have hlt:k < (ys.flatMap AV.cells).length:=by rw[h.1];exact (List.getElem?_eq_some_iff.1 hk).1
 have hck:=List.getElem?_eq_getElem hlt
 obtain⟨yy,hyy,hmem⟩:=List.mem_flatMap.1 (List.getElem_mem hlt)
 have:=hok yy hyy
 simp only[zth,List.all_eq_true]at this
 exact (ztg hr (h.2 k _ u hck hk) (this _ hmem)).1
end
end Go.Abs
namespace Go.Proofs.YthjmjdleecmaeaaGreat
open Go Go.Abs Go.RowKit Go.Proofs.Tryz
theorem zom {G:Ctx} (hG:G.P=prog) {st:St} {dst:Option Tmp} {K:St→Prop} {id v id2 v2 i:Nat} {xs:List AV} {y:AV} (hd:dstOK G.n dst) (hne:id2≠id) (hv1:st.ver id=v) (hv2:st.ver id2=v2)
 (hh:st.h id=.arr 45 29 xs) (hh2:st.h id2=.arr 45 29 [y]) (hok:∀ c∈xs,zth st c=true) (hok2:zth st y=true) (hi:i < xs.length) (hsz:xs.length≤100000)
 (hK:K ((st.setArr id 45 29 (xs.take i++[y]++xs.drop i)).put dst (.ref id (v+1)))):CallSem G 46 [.ref id v,I i,.ref id2 v2] dst K st:=by
 obtain⟨P,w0,S0,nn,rnd,ids,e0⟩:=G
 subst hG
 refine⟨⟨_,func46,rfl,rfl⟩,fun E a vs hr hl hv=>?_⟩
 have e1:vs.getD 0 undef=(E.own id).val:=by cases hv 0 _ rfl with|ref _ _ _ h1 h2=>exact h2 (by rw[hr.ver];exact hv1.symm)
 have e2:vs.getD 1 undef=.int .i64 i:=by exact (hv 1 _ rfl).v_inv
 have e3:vs.getD 2 undef=(E.own id2).val:=by cases hv 2 _ rfl with|ref _ _ _ h1 h2=>exact h2 (by rw[hr.ver];exact hv2.symm)
 have hs:vs=#[(E.own id).val,.int .i64 i,(E.own id2).val]:=by
  have hs1:vs.size=3:=hl
  apply Array.ext
  · simpa using hl
  · intro j h3 h4
    have:j=0∨j=1∨j=2:=by omega
    rcases this with rfl|rfl|rfl
    · simpa [Array.getD_eq_getD_getElem?,hs1] using e1
    · simpa [Array.getD_eq_getD_getElem?,hs1] using e2
    · simpa [Array.getD_eq_getD_getElem?,hs1] using e3
 have hb1:=hr.blocks id
 rw[hh]at hb1
 obtain⟨_,us,hown,hlen,hvs,hblk⟩:=hb1
 have hb2:=hr.blocks id2
 rw[hh2]at hb2
 obtain⟨_,us2,hown2,hlen2,hvs2,hblk2⟩:=hb2
 have h1us:=VRs.one hr hvs hok
 have h1us2:=VRs.one hr hvs2 (by simpa using hok2)
 have hxl:(xs.flatMap AV.cells).length=xs.length * 29:=zlo _ hlen
 have hul:us.length=xs.length * 29:=hown.1
 have hul2:us2.length=29:=hown2.1
 rcases hown.2 with ⟨hn1,hn2⟩|⟨g,cap,cur,hval,hg,hheap,hn,hc,hcs,ht⟩
 · omega
 rcases hown2.2 with ⟨hm1,hm2⟩|⟨g2,cap2,cur2,hval2,hg2,hheap2,hn2,hc2,hcs2,ht2⟩
 · simp at hm2
 have hgg:g2≠g:=by
  intro he
  have a1:(st.h id).at (E.own id)=some g:=by rw[hh];show (E.own id).val.ownBlock=_;rw[hval];rfl
  have a2:(st.h id2).at (E.own id2)=some g:=by rw[hh2];show (E.own id2).val.ownBlock=_;rw[hval2,he];rfl
  exact hr.apart id id2 g (Ne.symm hne) a1 a2
 simp only[List.length_cons,List.length_nil,Nat.zero_add,Nat.one_mul]at hval2 hn2 ht2
 have hys:VRs E ((xs.take i++[y]++xs.drop i).flatMap AV.cells) (us.take (i * 29)++us2++us.drop (i * 29)):=by
  rw[List.flatMap_append,List.flatMap_append,zlq hlen (by omega),zll hlen (by omega)]
  exact ((hvs.take _).app hvs2).app (hvs.drop _)
 have hylen:∀ z∈xs.take i++[y]++xs.drop i,z.cells.length=29:=by
  intro z hz
  simp only[List.mem_append,List.mem_singleton]at hz
  rcases hz with (hz|rfl)|hz
  · exact hlen z (List.mem_of_mem_take hz)
  · exact hlen2 z (by simp)
  · exact hlen z (List.mem_of_mem_drop hz)
 have hyl:(xs.take i++[y]++xs.drop i).length=xs.length+1:=by simp;omega
 have hul3:(us.take (i * 29)++us2++us.drop (i * 29)).length=(xs.length+1) * 29:=by simp[hul,hul2];omega
 have hct:cur.toList.take (i * 29)=us.take (i * 29):=by rw[← ht,List.take_take,Nat.min_eq_left (by omega)]
 have hbo:(E.own id).val.ownBlock=some g:=by rw[hval];rfl
 rw[hs,hval,hval2]
 by_cases hroom:xs.length+1≤cap
 · refine Calls.mono (zok g xs.length cap i g2 cap2 cur cur2 E.w hi hroom (by unfold maxLen at hc;omega) hgg hheap hheap2 hcs (by omega) (by rw[ht];exact h1us) (by rw[ht2];exact h1us2)) ?_
   rintro en w' ⟨rfl,R,rfl,hRs,hRt⟩
   rw[ht,ht2,hct]at hRt
   obtain⟨E',hw,hrel,hvr⟩:=hr.rearr (v':=.slice (some ⟨g,0,none⟩) (xs.length+1) cap) (w':=E.w.drew.setRow g R) hh (by
    rw[hbo]
    exact⟨rfl,rfl,rfl,by simp,fun k _ hk=>setRow_other E.w.drew g k _ (fun e=>hk (by rw[e]))⟩) hylen hys (by
    rw[hyl]
    exact⟨hul3,.inr ⟨g,cap,R,rfl,hg,setRow_heap E.w.drew g cur R _ _ hheap,hroom,hc,by omega,hRt⟩⟩) (fun b hb=>.inl (by rw[hbo];exact hb))
   subst hv1
   exact⟨_,rfl,_,E',hw,Rel.put hrel hvr (fun d he=>by rw[he]at hd;exact hd),hK⟩
 · refine Calls.mono (ins_grow g xs.length cap i g2 cap2 cur cur2 E.w hi hn (by omega) hsz hgg hheap hheap2 hcs (by omega) (by rw[ht];exact h1us) (by rw[ht2];exact h1us2)) ?_
   rintro en w' ⟨q,R,rfl,hq1,hq2,hgr,hhp,hRs,hRt⟩
   rw[ht,ht2,hct]at hRt
   obtain⟨E',hw,hrel,hvr⟩:=hr.rearr (v':=.slice (some ⟨E.w.heap.size,0,none⟩) (xs.length+1) q) (w':=w') hh ⟨hgr.os,hgr.tape,hgr.output,hgr.size,fun k hk _=>hgr.block k hk (by simp)⟩ hylen hys (by
    rw[hyl]
    exact⟨hul3,.inr ⟨_,q,R,rfl,hr.below.size,hhp,hq1,hq2,hRs,hRt⟩⟩) (fun b hb=>.inr (by cases hb;exact Nat.le_refl _))
   subst hv1
   exact⟨_,rfl,_,E',hw,Rel.put hrel hvr (fun d he=>by rw[he]at hd;exact hd),hK⟩
theorem zol {G:Ctx} (hG:G.P=prog) {st:St} {dst:Option Tmp} {K:St→Prop} {id v id2 v2:Nat} {xs:List AV} {y:AV} (hd:dstOK G.n dst) (hid:id < 20000) (hid2:id2 < 20000) (hne:id2≠id) (hv1:st.ver id=v) (hv2:st.ver id2=v2)
 (hh:st.h id=.arr 45 29 xs) (hh2:st.h id2=.arr 45 29 [y]) (hok:∀ st,okAll st [y]) (hsz:xs.length≤100000)
 (hK:∀ s v',s.ver id=v'→s.h id=.arr 45 29 (xs++[y])→K ((st.mem s).put dst (.ref id v'))):CallSem G 46 [.ref id v,I xs.length,.ref id2 v2] dst K st:=by
 obtain⟨P,w0,S0,nn,rnd,ids,e0⟩:=G
 subst hG
 have hn1:¬ id2=id:=hne
 have hn2:¬ id=id2:=fun h=>hne h.symm
 refine CallSem.inline 20000 func46 rfl rfl ntmps46 (congrArg Array.toList results46) (by simp) hd fun e1=>AWp.of_vc [] ?_
 simp[go_sem,hv1,hv2,hh,hh2,hok,hn1,hn2]
 refine⟨⟨by omega,by omega⟩,?_⟩
 refine PostIn.ret (r:=.ref id (v+1)) (by simp[go_sem,resIn]) ?_
 exact hK _ (v+1) (by simp[go_sem,hv1]) (by simp[go_sem])
theorem zgk (l:List Evt) (hsz:l.length≤1000000):AC prog 45 [evs l] (.fresh 45 29 (l.map fun x=>.agg (evc x))):=by
 refine AC.ob func45 ntmps45 results45 (zzi (zyk _)) (zw9 _ _) fun w S'=>AWp.of_vc [5] ?_
 have hok:∀ st,okAll st (l.map fun r=>.agg (evc r)):=fun st c hc=>by obtain⟨n,_,rfl⟩:=List.mem_map.1 hc;rfl
 simp[go_sem,evs,hok]
 refine⟨?_,?_⟩
 · refine⟨⟨by omega,by omega⟩,?_⟩
   exact rets
 · rintro rfl
   refine PostR.retW [] (r0:=.v (.slice none 0 0)) ?_ (.fresh _ _)
   simp[go_sem]
theorem zmu (l:List Evt) (id:Int):(getE l id=none∧idxI (fun x=>x.id==id) l=-1)∨∃ (k:Nat) (hk:k < l.length),getE l id=some l[k]∧idxI (fun x=>x.id==id) l=k∧l[k].id=id:=by
 rcases zn3 (fun e:Evt=>e.id==id) l with ⟨hf,hi⟩|⟨k,hk,hf,hi⟩
 · exact .inl ⟨hf,hi⟩
 · refine .inr ⟨k,hk,hf,hi,?_⟩
   have:=List.find?_some hf
   simpa using this
def LessTo (l:List Evt) (id:Int) (q:Nat):Prop:=∀ (j:Nat) (hj:j < l.length),j < q→l[j].id < id
theorem LessTo.zero (l:List Evt) (id:Int):LessTo l id 0:=fun j hj h=>absurd h (by omega)
theorem LessTo.succ {l:List Evt} {id:Int} {q:Nat} (h:LessTo l id q) (hq:q < l.length) (hx:l[q].id < id):LessTo l id (q+1):=fun j hj hlt=>by
 rcases Nat.lt_succ_iff_lt_or_eq.1 hlt with h1|rfl
 · exact h j hj h1
 · exact hx
theorem yos {l:List Evt} {id:Int} {q:Nat} (h:LessTo l id q) (hq:q≤l.length) (hn:∀ (h:q < l.length),¬ l[q].id < id) :
 l.takeWhile (fun x=>decide (x.id < id))=l.take q∧l.dropWhile (fun x=>decide (x.id < id))=l.drop q:=by
 induction l generalizing q with
 | nil=>simp
 | cons x l ih =>
  cases q with
  | zero =>
   have:=hn (by simp)
   simp at this
   have h1:¬ x.id < id:=by omega
   simp[h1]
  | succ q =>
   have h0:=h 0 (by simp) (by omega)
   simp at h0
   obtain⟨h1,h2⟩:=ih (q:=q) (fun j hj hlt=>by have:=h (j+1) (by simpa using hj) (by omega);simpa using this) (by simpa using hq) (fun hh=>by have:=hn (by simpa using hh);simpa using this)
   simp[h0,h1,h2]
theorem zzy (l:List Evt) (e:Evt) (hsm:∀ x∈l,SmE x) (he:SmE e) (hsz:l.length≤1000):AC prog 25 [evs l,ev e] (evsI (putE l e)):=by
 refine AC.ob func25 ntmps25 results25 (zzj (zyk _) (zyh _)) (zw7 _) fun w S'=>AWp.of_vc [71] ?_
 obtain⟨r,hr⟩:∃ r,putE l e=r:=⟨_,rfl⟩
 rw[hr]
 unfold putE at hr
 have hok:∀ st,okAll st (l.map fun r=>.agg (evc r)):=fun st c hc=>by obtain⟨n,_,rfl⟩:=List.mem_map.1 hc;rfl
 simp[go_sem]
 refine AWp.loop_vc [71] (fun m s=>∃ q:Nat,q≤l.length∧m=l.length - q∧s.σ 0=evs l∧s.σ 10=evs l∧s.σ 11=I l.length∧s.σ 12=I q∧s.σ 3=.eptr (evc e) 0∧∀ (j:Nat) (hj:j < l.length),j < q→l[j].room=e.room) l.length ⟨0,by simp[go_sem]⟩ ?_
 rintro m s ⟨q,hq,rfl,h0,h10,h11,h12,h3,hno⟩
 have hws:IntKind.i64.wrap ((q:Int)+1)=(q:Int)+1:=wrapB (by omega) (by omega)
 by_cases hlt:q < l.length
 · obtain⟨x,hx⟩:∃ x,l[q]=x:=⟨_,rfl⟩
   by_cases hz:x.room=e.room
   · have g1:(x.room != e.room)=false:=by simp[hz]
     simp[go_sem,h0,h10,h11,h12,h3,hlt,hx,hz,g1,hws]
     exact⟨l.length - (q+1),by omega,q+1,by omega,rfl,rfl,fun j hj h=>by
      rcases Nat.lt_succ_iff_lt_or_eq.1 h with h|rfl
      · exact hno j hj h
      · rw[hx];exact hz⟩
   · have g1:(x.room==e.room)=false:=beq_eq_false_iff_ne.2 hz
     have g2:(x.room != e.room)=true:=bne_iff_ne.2 hz
     rw[if_pos (List.any_eq_true.2 ⟨x,hx ▸ List.getElem_mem hlt,g2⟩)]at hr
     rw[← hr]
     simp[go_sem,h0,h10,h11,h12,h3,hlt,hx,hz,g1,g2]
     refine PostR.retW [] (r0:=.tup [.v (.slice none 0 0),I 13]) (by simp[go_sem]) ?_
     exact .tup ⟨.one (.nil _),.refl _,trivial⟩
 have hany:¬ l.any (fun x=>x.room != e.room)=true:=by
  rw[List.any_eq_true]
  rintro⟨x,hx,hne⟩
  obtain⟨j,hj,rfl⟩:=List.mem_iff_getElem.1 hx
  exact (bne_iff_ne.1 hne) (hno j hj (by omega))
 rw[if_neg hany]at hr
 simp[go_sem,h0,h10,h11,h12,h3,hlt]
 clear hq h10 h11 h12 hno hlt hany hws
 refine cpu (yjs l e.id) ?_
 rcases zmu l e.id with ⟨hf,hi⟩|⟨k,hk,hf,hi,hid⟩
 · rw[hf]at hr
   simp only at hr
   rw[if_neg (by omega)]at hr
   have hl2:¬ (2000:Int)≤l.length:=by omega
   simp[go_sem,hi,h0,h3,hl2]
   refine cpu (zgk l (by omega)) ?_
   simp[go_sem,hi,h0,h3]
   refine AWp.loop_vc [71] (fun m s=>∃ q v:Nat,q≤l.length∧m=l.length - q∧s.σ 0=evs l∧s.σ 3=.eptr (evc e) 0∧s.σ 8=I q∧s.σ 9=.ref 34 v∧s.ver 34=v∧s.h 34=.arr 45 29 (l.map fun x=>.agg (evc x))∧LessTo l e.id q) l.length ⟨0,s.ver 34+1,by simp[go_sem,h0,h3,LessTo.zero]⟩ ?_
   clear h0 h3 s
   rintro m s ⟨q,v,hq,rfl,h0,h3,h8,h9,hv,hh,hless⟩
   have hws:IntKind.i64.wrap ((q:Int)+1)=(q:Int)+1:=wrapB (by omega) (by omega)
   by_cases hlt:q < l.length
   · obtain⟨x,hx⟩:∃ x,l[q]=x:=⟨_,rfl⟩
     by_cases hz:x.id < e.id
     · simp[go_sem,h0,h3,h8,h9,hlt,hx,hz]
       refine da ?_
       simp[go_sem,h0,h3,h8,h9,hlt,hx,hz,hws]
       exact⟨l.length - (q+1),by omega,q+1,by omega,rfl,rfl,hv,hh,hless.succ hlt (hx ▸ hz)⟩
     · obtain⟨t1,t2⟩:=yos hless hq (fun h=>by rw[hx];exact hz)
       rw[t1,t2]at hr
       rw[← hr]
       simp[go_sem,h0,h3,h8,h9,hlt,hx,hz]
       refine da ?_
       simp[go_sem,h0,h3,h8,h9,hlt,hx,hz,hws]
       refine zom (xs:=l.map fun x=>.agg (evc x)) (y:=.agg (evc e)) rfl (by simp[go_sem]) (by decide) (by simp[go_sem,hv]) (by simp[go_sem]) (by simp[go_sem,hh]) (by simp[go_sem]) (hok _) rfl (by simpa using hlt) (by simp;omega) ?_
       simp[go_sem]
       refine PostR.retW [34] (r0:=evsI _) ?_ (.refl _)
       simp[go_sem,evsI,evs,hv,hh]
       rfl
   · obtain⟨t1,t2⟩:=yos hless hq (fun h=>absurd h hlt)
     rw[t1,t2]at hr
     rw[← hr]
     simp[go_sem,h0,h3,h8,h9,hlt]
     refine da ?_
     simp[go_sem,h0,h3,h8,h9,hlt]
     have hql:q=l.length:=by omega
     have hqx:q=(l.map fun x=>AV.agg (evc x)).length:=by simp[hql]
     rw[show ((q:Nat):Int)=((l.map fun x=>AV.agg (evc x)).length:Int) by rw[← hqx]]
     refine zol (xs:=l.map fun x=>.agg (evc x)) (y:=.agg (evc e)) rfl (by simp[go_sem]) (by decide) (by decide) (by decide) (by simp[go_sem,hv]) (by simp[go_sem]) (by simp[go_sem,hh]) (by simp[go_sem]) (fun st c hc=>by rw[List.mem_singleton.1 hc];rfl) (by simp;omega) ?_
     intro s1 v1 g1 g2
     simp[go_sem]
     refine PostR.retW [34] (r0:=evsI _) ?_ (.refl _)
     simp[go_sem,evsI,evs,g1,g2]
     subst hql
     rw[List.take_of_length_le (by simp),List.drop_of_length_le (by simp)]
     rfl
 · rw[hf]at hr
   simp only at hr
   have hk0:¬ (k:Int) < 0:=by omega
   obtain⟨x,hx⟩:∃ x,l[k]=x:=⟨_,rfl⟩
   rw[hx]at hr
   rw[hi]at hr
   simp[go_sem,hi,h0,h3,hk0]
   refine cpu (zgk l (by omega)) ?_
   simp[go_sem,hi,h0,h3]
   refine cpu (yrb e he) ?_
   cases hw:yra e with
   | false =>
    rw[if_neg (by rw[hw];simp)]at hr
    rw[← hr]
    simp[go_sem,hi,h0,h3,hk,hx]
    refine PostR.retW [34] (r0:=evsI _) ?_ (.refl _)
    simp[go_sem,evsI,evs]
    done
   | true =>
    simp[go_sem,hi,h0,h3,hk,hx]
    refine cpu (yrb x (hsm x (hx ▸ List.getElem_mem hk))) ?_
    cases hwx:yra x with
    | true =>
     rw[if_neg (by rw[hwx];simp)]at hr
     rw[← hr]
     simp[go_sem,hi,h0,h3,hk,hx]
     refine PostR.retW [34] (r0:=evsI _) ?_ (.refl _)
     simp[go_sem,evsI,evs]
     try rfl
    | false =>
     rw[if_pos ⟨hw,hwx⟩]at hr
     rw[← hr]
     simp[go_sem,hi,h0,h3,hk,hx]
     refine PostR.retW [34] (r0:=evsI _) ?_ (.refl _)
     simp[go_sem,evsI,evs]
     try rfl
 done
theorem putC:PutC:=fun l e hl he hsz=>zzy l e hl he hsz
end Go.Proofs.YthjmjdleecmaeaaGreat
namespace Go.Proofs.YthjmjdleecmaeaaGreat
open Go Go.Abs Go.RowKit Go.Proofs.Tryz
set_option maxRecDepth 100000 in
theorem zm6 (n:Nat) (hpos:0 < n) (hbig:n≤100000) (w:World) :
 Calls prog 94 #[.slice none 0 0,.int .i64 n] w fun e w' =>
  ∃ (q:Nat) (R:Array Value),e=.returned (.slice (some ⟨w.heap.size,0,none⟩) 0 q)∧q≤maxLen∧w.grownBy w' none∧w'.heap[w.heap.size]? = some (.cells R 45 (0,0))∧q * 29≤R.size:=by
 have hu:prog.underlying 22=some (.slice 45):=by kernel_rfl
 have hui:prog.underlying 3=some (.int .i64):=by kernel_rfl
 have hs:(prog.info? 45).map (·.size)=some 29:=by kernel_rfl
 obtain⟨by',hby'⟩:∃ y,ylk prog 45=some y:=⟨_,by simp[go_sem];rfl⟩
 have hbyl:by'≤10000:=by simp[go_sem]at hby';omega
 have hzz:(tZero prog 45).map (·.cells.size)=some 29:=by simp[go_sem]
 obtain⟨inf,hinf,hsz⟩:=Option.map_eq_some_iff.1 hs
 have hby:inf.bytes=by':=by have:=hby';unfold ylk at this;simpa [hinf] using this
 obtain⟨z,hz0,hzs⟩:=Option.map_eq_some_iff.1 hzz
 have hiz:inf.zero=some z:=by unfold tZero at hz0;simpa [hinf] using hz0
 have hbn:n * inf.bytes≤140737488355328:=by rw[hby];exact Nat.le_trans (Nat.mul_le_mul (show n≤100000 by omega) hbyl) (by omega)
 have hrz:∀ ty,(Builtin.append_ #[22,3] ty #[.slice none 0 0,.int .i64 n]).run prog w=.ok (.slice (some ⟨w.heap.size,0,none⟩) n (grownCap w n 0 45))
  (w.drew.alloc (.cells (([]:List Value).toArray++Builtin.zeroCells z.cells n++Builtin.zeroCells z.cells (grownCap w n 0 45 - n)) 45)):=fun ty=>by
  have h:=Lib.run_append_grow_zeros w 22 3 ty 45 inf z .i64 .i64 hu hui hinf hiz none 0 0 [] (run_firstCells_none w.drew inf.size 0 0 0) n hpos (by rw[hsz];omega) (by omega) (by omega) (by omega)
   (growslice_fits (by omega) (by rw[Nat.zero_add];exact hbn))
  simp only[Nat.zero_add]at h
  exact h
 obtain⟨q,hq⟩:∃ q,q=grownCap w n 0 45:=⟨_,rfl⟩
 obtain⟨ROW,hROW⟩:∃ ROW:Array Value,ROW=([]:List Value).toArray++Builtin.zeroCells z.cells n++Builtin.zeroCells z.cells (q - n):=⟨_,rfl⟩
 have hqn:n≤q:=by rw[hq];exact grownCap_ge w _ _ _
 have hqm:q≤maxLen:=by rw[hq];exact grownCap_le_maxLen w n 0 _ (by unfold maxLen;omega)
 have hRl:ROW.size=q * 29:=by
  rw[hROW];simp only[Array.size_append,List.size_toArray,size_zeroCells,hzs,List.length_nil];omega
 rw[← hq,← hROW]at hrz
 have mixed:prog.follows Departure.mixedOrders=true:=by kernel_rfl
 clear hq hROW
 go_enter func94,ntmps94
 go_wp2_with (at_builtin;refine Lib.wpList_append_run _ rfl _ _ _ _ rfl _ _ rfl rfl _ _ (hrz _) ?_)
 go_ret
 refine⟨q,ROW,rfl,hqm,⟨rfl,rfl,rfl,by simp,fun k hk _=>heap_alloc_old w _ hk⟩,heap_alloc_new w _,by omega⟩
theorem grow_ac (n:Nat) (hn:n≤100000):AC prog 94 [.v (.slice none 0 0),I n] (.fresh 45 29 []):=by
 refine⟨⟨_,func94,rfl,rfl⟩,?_,?_,?_⟩
 · intro p hp
   simp only[List.mem_cons,List.not_mem_nil,or_false]at hp
   rcases hp with rfl|rfl<;>exact zzh _
 · exact fun x hx=>by cases hx
 · intro S w vs hS hsz hv
   have e1:vs.getD 0 undef=.slice none 0 0:=(hv 0 _ rfl).v_inv
   have e2:vs.getD 1 undef=.int .i64 n:=(hv 1 _ rfl).v_inv
   have hs:vs=#[.slice none 0 0,.int .i64 n]:=by
    have hs1:vs.size=2:=hsz
    apply Array.ext
    · simpa using hsz
    · intro j h3 h4
      have:j=0∨j=1:=by omega
      rcases this with rfl|rfl
      · simpa [Array.getD_eq_getD_getElem?,hs1] using e1
      · simpa [Array.getD_eq_getD_getElem?,hs1] using e2
   rw[hs]
   clear hv e1 e2 hs hsz
   have mixed:prog.follows Departure.mixedOrders=true:=by kernel_rfl
   rcases Nat.eq_zero_or_pos n with rfl|hpos
   · go_enter func94,ntmps94
     go_wp2
     go_ret
     refine⟨_,S,rfl,.refl _ _,fun _ h=>h,fun _ h=>.inl h,hS,[],World.ownsRowW_nil _ _ _ _,by simp,⟨rfl,by simp⟩,fun b hb=>by simp[Value.ownBlock]at hb⟩
   · refine Calls.mono (zm6 n hpos hn w) ?_
     rintro en w' ⟨q,R,rfl,hqm,hg,hh,hR⟩
     refine⟨_,S,rfl,⟨hg.os,hg.tape,hg.output,hg.size,fun k hk=>hg.block k hk (by simp)⟩,fun _ h=>h,fun _ h=>.inl h,fun b hb=>Nat.lt_of_lt_of_le (hS b hb) hg.size,[],⟨by simp,.inr ⟨w.heap.size,q,R,rfl,Nat.le_refl _,hh,by simp,hqm,hR,by simp⟩⟩,by simp,⟨rfl,by simp⟩,fun b hb hSb=>?_⟩
     have:=hS b hSb
     have hbe:w.heap.size=b:=by simpa [Value.ownBlock] using hb
     omega
theorem pure_two (a b:List Evt):Pure (.lst 1 [evs a,evs b]):=zyw fun x hx c hc=>by
 simp only[List.mem_cons,List.not_mem_nil,or_false]at hx
 rcases hx with rfl|rfl<;>(have:c=_:=List.mem_singleton.1 hc;subst this;exact zyk _)
def lenTo (a b:List Evt) (q:Nat):Nat:=if q=0 then 0 else if q=1 then a.length else a.length+b.length
def catTo (a b:List Evt) (q:Nat):List Evt:=if q=0 then [] else if q=1 then a else a++b
theorem zhd (a b:List Evt) (ha:a.length≤1000) (hb:b.length≤1000):AC prog 55 [.lst 1 [evs a,evs b]] (.fresh 45 29 ((a++b).map fun x=>.agg (evc x))):=by
 refine AC.ob func55 ntmps55 results55 (zzi (pure_two a b)) (zw9 _ _) fun w S'=>AWp.of_vc [] ?_
 have hok:∀ (l:List Evt) st,okAll st (l.map fun r=>.agg (evc r)):=fun l st c hc=>by obtain⟨n,_,rfl⟩:=List.mem_map.1 hc;rfl
 have hal:a.length≤1000:=ha
 simp[go_sem]
 refine AWp.loop_vc [] (fun m s=>∃ q:Nat,q≤2∧m=2 - q∧s.σ 0=.lst 1 [evs a,evs b]∧s.σ 9=.lst 1 [evs a,evs b]∧s.σ 10=I 2∧s.σ 11=I q∧s.σ 3=I (lenTo a b q)) 2 ⟨0,by simp[go_sem,lenTo]⟩ ?_
 rintro m s ⟨q,hq,rfl,h0,h9,h10,h11,h3⟩
 rcases (by omega:q=0∨q=1∨q=2) with rfl|rfl|rfl
 · have hw:IntKind.i64.wrap (a.length:Int)=a.length:=wrapB (by omega) (by omega)
   have hn:¬ (a.length:Int) < 0:=by omega
   simp[go_sem,h0,h9,h10,h11,h3,lenTo,hw,hn]
   exact⟨1,by omega,1,by omega,rfl,rfl,by simp⟩
 · have hw:IntKind.i64.wrap ((a.length:Int)+b.length)=(a.length:Int)+b.length:=wrapB (by omega) (by omega)
   have hn:¬ (a.length:Int)+b.length < 0:=by omega
   simp[go_sem,h0,h9,h10,h11,h3,lenTo,hw,hn]
   exact⟨2,by omega,rfl,rfl,by simp⟩
 simp[go_sem,h0,h9,h10,h11,h3]
 refine cpu (grow_ac (lenTo a b 2) (by simp[lenTo];omega)) ?_
 simp[go_sem,h0]
 refine AWp.loop_vc [] (fun m s=>∃ q v:Nat,q≤2∧m=2 - q∧s.σ 25=.lst 1 [evs a,evs b]∧s.σ 26=I 2∧s.σ 27=I q∧s.σ 6=.ref 24 v∧s.ver 24=v∧s.h 24=.arr 45 29 ((catTo a b q).map fun x=>.agg (evc x))) 2 ⟨0,s.ver 24+1,by simp[go_sem,catTo,h0]⟩ ?_
 clear h0 h9 h10 h11 h3 hq s
 rintro m s ⟨q,v,hq,rfl,h25,h26,h27,h6,hv,hh⟩
 rcases (by omega:q=0∨q=1∨q=2) with rfl|rfl|rfl
 · simp[go_sem,h25,h26,h27,h6,hv,hh,catTo,evs,hok]
   exact⟨⟨by omega,by omega⟩,1,by omega,1,by omega,rfl,rfl,rfl⟩
 · simp[go_sem,h25,h26,h27,h6,hv,hh,catTo,evs,hok]
   exact⟨⟨by omega,by omega⟩,2,by omega,rfl,rfl,by simp;exact fun _ _=>rfl⟩
 · simp[go_sem,h25,h26,h27,h6,hv,hh,catTo]
   refine PostR.ret ?_
   simp[go_sem,h6,hv,hh,catTo]
end Go.Proofs.YthjmjdleecmaeaaGreat
