/- Several texts of the proof in one: Y7, B52. No condition. -/
import Derived.Test.YthjmjdleecmaeaaGreatK43
set_option linter.unusedSimpArgs false
set_option linter.unusedVariables false
set_option maxHeartbeats 4000000
set_option maxRecDepth 8000
namespace Go.Proofs.YthjmjdleecmaeaaGreat
open Go Go.Abs
def noref (id0:Int) (f:Evt):Bool:=!(f.prev.contains id0)&&!(f.auth.contains id0)
theorem zss {id0:Int} {a b:Evt} (h:Tw a b):noref id0 a=noref id0 b:=by unfold noref;rw[h.prev,h.auth]
theorem noref_iff {id0:Int} {f:Evt}:noref id0 f=true↔(∀ n∈f.prev,n≠id0)∧∀ n∈f.auth,n≠id0:=by
 unfold noref
 simp only[Bool.and_eq_true,Bool.not_eq_true',List.contains_eq_mem,decide_eq_false_iff_not]
 constructor
 · rintro⟨h1,h2⟩
   exact⟨fun n hn he=>h1 (he ▸ hn),fun n hn he=>h2 (he ▸ hn)⟩
 · rintro⟨h1,h2⟩
   exact⟨fun h=>h1 _ h rfl,fun h=>h2 _ h rfl⟩
structure EndF (id0:Int) (F:List Evt):Prop where
 fine:Fine F
 nr:∀ f∈F,noref id0 f=true
 rej:zpu F id0=true→whyI F id0≠0
theorem EndF.nrx {id0:Int} {F l:List Evt} (h:EndF id0 F) (hl:Le l F):∀ f∈l,noref id0 f=true:=fun f hf=>by
 obtain⟨f',h1,h2⟩:=hl f hf
 rw[zss h2]
 exact h.nr f' h1
theorem le_known {l m:List Evt} (h:Le l m) {n:Int} (hn:zpu l n=true):zpu m n=true:=by
 obtain⟨e,h1,h2,_⟩:=zp1 hn
 obtain⟨e',g1,g2⟩:=h e h1
 rw[← h2,g2.id]
 exact zp2 g1
theorem EndF.rejx {id0:Int} {F l:List Evt} (h:EndF id0 F) (hf:Fine l) (hl:Le l F) (hk:zpu l id0=true):whyI l id0≠0:=by
 rw[hf.why_le h.fine hl hk]
 exact h.rej (le_known hl hk)
structure Sim (id0:Int) (x y:RoomD):Prop where
 id:x.id=y.id
 ev:∀ f,f∈y.events↔f∈x.events∧f.id≠id0
 wt:∀ f,noref id0 f=true→(f∈y.waiting↔f∈x.waiting∧f.id≠id0)
 ny:∀ f∈y.waiting,f.id≠id0
variable {id0:Int} {x y:RoomD} {U F:List Evt}
theorem Sim.known (s:Sim id0 x y) {n:Int} (hn:n≠id0):zpu x.events n=true↔zpu y.events n=true:=by
 constructor
 · intro h
   obtain⟨e,h1,h2,_⟩:=zp1 h
   rw[← h2]
   exact zp2 ((s.ev e).2 ⟨h1,by rw[h2];exact hn⟩)
 · intro h
   obtain⟨e,h1,h2,_⟩:=zp1 h
   rw[← h2]
   exact zp2 ((s.ev e).1 h1).1
theorem Sim.unknown (s:Sim id0 x y):zpu y.events id0=false:=by
 cases h:zpu y.events id0 with
 | false=>rfl
 | true =>
  obtain⟨e,h1,h2,_⟩:=zp1 h
  exact absurd h2 ((s.ev e).1 h1).2
theorem Sim.ready (s:Sim id0 x y) {f:Evt} (hf:noref id0 f=true):yfr x.events f=true↔yfr y.events f=true:=by
 obtain⟨h1,h2⟩:=noref_iff.1 hf
 rw[ready_iff,ready_iff]
 constructor
 · rintro⟨g1,g2⟩
   exact⟨fun n hn=>(s.known (h1 n hn)).1 (g1 n hn),fun n hn=>(s.known (h2 n hn)).1 (g2 n hn)⟩
 · rintro⟨g1,g2⟩
   exact⟨fun n hn=>(s.known (h1 n hn)).2 (g1 n hn),fun n hn=>(s.known (h2 n hn)).2 (g2 n hn)⟩
theorem Sim.noref_of_ready (s:Sim id0 x y) {f:Evt} (hf:yfr y.events f=true):noref id0 f=true:=by
 obtain⟨g1,g2⟩:=ready_iff.1 hf
 refine noref_iff.2 ⟨fun n hn he=>?_,fun n hn he=>?_⟩
 · have:=g1 n hn
   rw[he,s.unknown]at this
   cases this
 · have:=g2 n hn
   rw[he,s.unknown]at this
   cases this
theorem Sim.onX (s:Sim id0 x y) {x':RoomD} (hid:x'.id=x.id) (he:∀ f,f.id≠id0→(f∈x'.events↔f∈x.events)) (hw:∀ f,noref id0 f=true→f.id≠id0→(f∈x'.waiting↔f∈x.waiting)):Sim id0 x' y:=by
 refine⟨hid.trans s.id,fun f=>?_,fun f hf=>?_,s.ny⟩
 · rw[s.ev]
   exact⟨fun h=>⟨(he f h.2).2 h.1,h.2⟩,fun h=>⟨(he f h.2).1 h.1,h.2⟩⟩
 · rw[s.wt f hf]
   exact⟨fun h=>⟨(hw f hf h.2).2 h.1,h.2⟩,fun h=>⟨(hw f hf h.2).1 h.1,h.2⟩⟩
theorem Sim.onY (s:Sim id0 x y) {y':RoomD} (hid:y'.id=y.id) (he:y'.events=y.events) (hw:∀ f,noref id0 f=true→(f∈y'.waiting↔f∈y.waiting)) (hn:∀ f∈y'.waiting,f.id≠id0):Sim id0 x y':=by
 refine⟨s.id.trans hid.symm,fun f=>by rw[he];exact s.ev f,fun f hf=>?_,hn⟩
 rw[hw f hf,s.wt f hf]
theorem zem {room:Bytes} {a b:List Evt} (ha:SetF U room a) (hb:SetF U room b) (fa:Fine a) (fb:Fine b) (h:∀ f,f∈b↔f∈a∧f.id≠id0) (hr:zpu a id0=true→whyI a id0≠0):zej a=zej b:=by
 have hba:b=a.filter fun f=>f.id != id0:=yj4 hb.srt (ha.srt.filter _) fun f=>by
  rw[h,List.mem_filter]
  simp
 have hl:Le b a:=Le.sub fun f hf=>((h f).1 hf).1
 rw[zel fa,zel fb]
 have:a.filter (fun e=>e.kind==1&&whyI a e.id==0)=b.filter fun e=>e.kind==1&&whyI b e.id==0:=by
  have h2:b.filter (fun e=>e.kind==1&&whyI b e.id==0)=(a.filter fun f=>f.id != id0).filter fun e=>e.kind==1&&whyI b e.id==0:=by rw[← hba]
  rw[h2,List.filter_filter]
  refine zj9 fun f hf=>?_
  by_cases hi:f.id=id0
  · have:=hr (by rw[← hi];exact zp2 hf)
    rw[hi]
    simp[this]
  · have hk:zpu b f.id=true:=zp2 ((h f).2 ⟨hf,hi⟩)
    rw[fb.why_le fa hl hk]
    simp[hi]
 rw[this]
theorem zbq (hU:U.length≤24) {r:RoomD} (h:RoomF U r) {e:Evt} (he:e∈U) (hv:yp6 e=0) (hr:e.room=r.id) (hn:getE r.events e.id=none) :
 (addR r e).2≠0↔(zh9 (putE r.events e).1=0→0 < zej r.events∧zej r.events < zej (putE r.events e).1):=by
 have hlen:=h.es.short hU
 obtain⟨p1,p2,p3⟩:=zz0 hU h.es he hv hr hn
 unfold addR
 rw[if_neg (by omega),if_neg (not_not_intro p1)]
 by_cases c1:zh9 (putE r.events e).1=0
 case neg =>
  rw[if_pos c1]
  exact⟨fun _ h0=>absurd h0 c1,fun _=>by show (15:Int)≠0;decide⟩
 rw[if_neg (not_not_intro c1)]
 by_cases c2:0 < zej r.events∧zej r.events < zej (putE r.events e).1
 · rw[if_pos c2]
   exact⟨fun _ _=>c2,fun _=>by show (17:Int)≠0;decide⟩
 · rw[if_neg c2]
   exact⟨fun h0=>absurd rfl h0,fun h0=>absurd (h0 c1) c2⟩
theorem Sim.get (s:Sim id0 x y) {n:Int} (hn:getE x.events n=none):getE y.events n=none :=
 get_sub (fun f hf=>((s.ev f).1 hf).1) hn
theorem Sim.add (hU:U.length≤24) (hx:RoomF U x) (hy:RoomF U y) (s:Sim id0 x y) {e:Evt} (he:e∈U) (hv:yp6 e=0) (hr:e.room=x.id) (hne:e.id≠id0) (hnr:noref id0 e=true) (hnx:getE x.events e.id=none) (hwx:getE x.waiting e.id=none) (hwy:getE y.waiting e.id=none) (hrd:yfr x.events e=true) (hrej:zpu x.events id0=true→whyI x.events id0≠0) :
 ((addR x e).2≠0↔(addR y e).2≠0)∧Sim id0 (addR x e).1 (addR y e).1:=by
 have hny:=s.get hnx
 have hry:e.room=y.id:=by rw[← s.id];exact hr
 obtain⟨p1,p2,p3⟩:=zz0 hU hx.es he hv hr hnx
 obtain⟨q1,q2,q3⟩:=zz0 hU hy.es he hv hry hny
 have hrel:∀ f,f∈(putE y.events e).1↔f∈(putE x.events e).1∧f.id≠id0:=fun f=>by
  rw[q3,p3,s.ev]
  constructor
  · rintro (h|rfl)
    · exact⟨.inl h.1,h.2⟩
    · exact⟨.inr rfl,hne⟩
  · rintro⟨h|rfl,h2⟩
    · exact .inl ⟨h,h2⟩
    · exact .inr rfl
 have hlyx:Le y.events x.events:=Le.sub fun f hf=>((s.ev f).1 hf).1
 have hrdy:=(s.ready hnr).1 hrd
 have hd:zh9 (putE x.events e).1=0↔zh9 (putE y.events e).1=0:=by
  rw[zbp hx.dp (yj5 p2.srt) p3 hrd,zbp hy.dp (yj5 q2.srt) q3 hrdy]
  obtain⟨g1,g2⟩:=ready_iff.1 hrdy
  rw[zh2 (l:=x.events) (m:=y.events) (Eq.refl (yk4 e)) (fun n hn=>(zh7 hlyx (yj5 hx.es.srt) (g1 n hn)).symm) fun n hn=>(zh7 hlyx (yj5 hx.es.srt) (g2 n hn)).symm]
 have hb:zh9 (putE x.events e).1=0→zej (putE x.events e).1=zej (putE y.events e).1:=fun h0=>by
  have f2:=p2.fine hU h0
  have g2:SetF U x.id (putE y.events e).1:=by rw[s.id];exact q2
  refine zem p2 g2 f2 (q2.fine hU (hd.1 h0)) hrel fun hk=>?_
  obtain⟨z,z1,z2,_⟩:=zp1 hk
  have hkx:zpu x.events id0=true:=by
   rcases (p3 z).1 z1 with h|rfl
   · rw[← z2];exact zp2 h
   · exact absurd z2 hne
  rw[← (hx.fine hU).why_le f2 (Le.sub fun f hf=>(p3 f).2 (.inl hf)) hkx]
  exact hrej hkx
 have hb0:zej x.events=zej y.events:=by
  have g2:SetF U x.id y.events:=by rw[s.id];exact hy.es
  exact zem hx.es g2 (hx.fine hU) (hy.fine hU) s.ev hrej
 have hiff:(addR x e).2≠0↔(addR y e).2≠0:=by
  rw[zbq hU hx he hv hr hnx,zbq hU hy he hv hry hny,hb0]
  constructor
  · intro h h0
    have:=h (hd.2 h0)
    rw[hb (hd.2 h0)]at this
    exact this
  · intro h h0
    rw[hb h0]
    exact h (hd.1 h0)
 refine⟨hiff,?_⟩
 rcases hx.add hU he hv hr hnx hwx with ⟨a1,a2⟩|⟨a1,a2,a3,a4,a5,_⟩
 · rcases hy.add hU he hv hry hny hwy with ⟨b1,b2⟩|⟨b1,_⟩
   · rw[a2,b2];exact s
   · exact absurd b1 (hiff.1 a1)
 · rcases hy.add hU he hv hry hny hwy with ⟨b1,b2⟩|⟨b1,b2,b3,b4,b5,_⟩
   · exact absurd a1 (hiff.2 b1)
   · refine⟨by rw[a5,b5];exact s.id,fun f=>?_,fun f hf=>by rw[a4,b4];exact s.wt f hf,by rw[b4];exact s.ny⟩
     rw[b3,a3,s.ev]
     constructor
     · rintro (h|rfl)
       · exact⟨.inl h.1,h.2⟩
       · exact⟨.inr rfl,hne⟩
     · rintro⟨h|rfl,h2⟩
       · exact .inl ⟨h,h2⟩
       · exact .inr rfl
def Settled (r:RoomD):Prop:=∀ f∈r.waiting,yfr r.events f=false
theorem settled_iff {r:RoomD}:nextW r.events r.waiting r.waiting.length=none↔Settled r:=by
 constructor
 · intro h f hf
   obtain⟨j,hj,rfl⟩:=List.mem_iff_getElem.1 hf
   have:=zsh _ h j hj
   rwa [show r.waiting.getD j evZ=r.waiting[j] from by simp[List.getD,hj]]at this
 · intro h
   have key:∀ q,q≤r.waiting.length→nextW r.events r.waiting q=none:=by
    intro q
    induction q with
    | zero=>intro _;rfl
    | succ q ih =>
     intro hq
     unfold nextW
     rw[h _ (zmt (by omega)),if_neg (by decide)]
     exact ih (by omega)
   exact key _ (Nat.le_refl _)
theorem zb1 {a b:Evt} (h:zb0 a b=true):zb0 b a=false:=by
 unfold zb0 at *
 simp only[decide_eq_true_eq,decide_eq_false_iff_not]at *
 omega
theorem Sim.settle (hU:U.length≤24) (hA:Apart U) (hF:EndF id0 F):∀ x:RoomD,∀ y:RoomD,RoomF U x→RoomF U y→Sim id0 x y→Le (yiv x).events F→Sim id0 (yiv x) (yiv y):=by
 refine yix (fun x hn=>?_) fun x p hn ih=>?_
 · intro y hx hy s hl
   have hsx:=settled_iff.1 hn
   have hsy:Settled y:=fun f hf=>by
    cases hr:yfr y.events f with
    | false=>rfl
    | true =>
     have hnr:=s.noref_of_ready hr
     have:=hsx f ((s.wt f hnr).1 hf).1
     rw[(s.ready hnr).2 hr]at this
     cases this
   rw[yiy hn,yiy (settled_iff.2 hsy)]
   exact s
 · intro y hx hy s hl
   have hp:=zsg _ _ _ _ hn
   obtain⟨e,he⟩:∃ e,x.waiting.getD p evZ=e:=⟨_,rfl⟩
   obtain⟨h1,h2,h3,h4,h5,h6,h7⟩:=hx.step hU hp he
   rw[yi0 hn,he]at hl ⊢
   rw[he]at ih
   have hcx:=zht hx hp
   rw[he]at hcx
   obtain⟨x1,hx1⟩:∃ x1,(addR (cutW x p) e).1=x1:=⟨_,rfl⟩
   have hadd:=h2.add hU h5 h6 h7 h3 h4
   have hadd2:RoomF U x1∧(x1.events=(cutW x p).events∨∀ f,f∈x1.events↔f∈x.events∨f=e)∧x1.waiting=(cutW x p).waiting∧x1.id=x.id:=by
    rw[← hx1]
    rcases hadd with ⟨_,g⟩|⟨_,g1,g2,g3,g4,_⟩
    · rw[g];exact⟨h2,.inl rfl,rfl,rfl⟩
    · exact⟨g1,.inr g2,g3,g4⟩
   obtain⟨f1,f2,f3,f4⟩:=hadd2
   rw[hx1]at ih hl ⊢
   obtain⟨_,t2,_,_⟩:=RoomF.settle hU x1 f1
   have hl1:Le x1.events F:=t2.trans' hl
   have hlx:Le x.events F:=by
    refine Le.trans' (Le.sub fun f hf=>?_) hl1
    rcases f2 with f2|f2
    · rw[f2];exact hf
    · exact (f2 f).2 (.inl hf)
   by_cases c1:e.id=id0
   · refine ih y f1 hy (s.onX f4 (fun f hf=>?_) fun f hf hi=>?_) hl
     · rcases f2 with f2|f2
       · rw[f2];exact Iff.rfl
       · rw[f2]
         exact⟨fun h=>h.elim (fun h=>h) fun h=>absurd (by rw[h];exact c1) hf,.inl⟩
     · rw[f3,hcx]
       exact⟨fun h=>h.1,fun h=>⟨h,by rw[c1];exact hi⟩⟩
   cases c2:noref id0 e with
   | false =>
    have hev:x1.events=x.events:=by
     rcases f2 with f2|f2
     · exact f2
     · have:=hF.nrx hl1 e ((f2 e).2 (.inr rfl))
       rw[c2]at this;cases this
    refine ih y f1 hy (s.onX f4 (fun f hf=>by rw[hev]) fun f hf hi=>?_) hl
    rw[f3,hcx]
    refine⟨fun h=>h.1,fun h=>⟨h,fun hc=>?_⟩⟩
    have:=hA f (hx.ws.inU f h) e h5 hc
    rw[zss this,c2]at hf
    cases hf
   | true =>
    have hey:e∈y.waiting:=(s.wt e c2).2 ⟨h1,c1⟩
    obtain⟨i1,i2⟩:=zsj hx.ws.srt _ p (Nat.le_refl _) hn
    rw[he]at i1 i2
    have hry:yfr y.events e=true:=(s.ready c2).1 i1
    cases hny:nextW y.events y.waiting y.waiting.length with
    | none =>
     have:=settled_iff.1 hny e hey
     rw[hry]at this;cases this
    | some p' =>
     have hp':=zsg _ _ _ _ hny
     obtain⟨j1,j2⟩:=zsj hy.ws.srt _ p' (Nat.le_refl _) hny
     obtain⟨e',he'⟩:∃ e',y.waiting.getD p' evZ=e':=⟨_,rfl⟩
     rw[he']at j1 j2
     have hee:e'=e:=by
      have hnr':=s.noref_of_ready j1
      have hm':e'∈y.waiting:=by rw[← he'];exact zmt hp'
      have hmx:=((s.wt e' hnr').1 hm').1
      obtain⟨k,hk,hke⟩:=List.mem_iff_getElem.1 hmx
      obtain⟨k',hk',hke'⟩:=List.mem_iff_getElem.1 hey
      have hgk:x.waiting.getD k evZ=e':=by rw[← hke];simp[List.getD,hk]
      have hgk':y.waiting.getD k' evZ=e:=by rw[← hke'];simp[List.getD,hk']
      have a1:=i2 k hk (by rw[hgk];exact (s.ready hnr').2 j1)
      have a2:=j2 k' hk' (by rw[hgk'];exact hry)
      rw[hgk]at a1
      rw[hgk']at a2
      rcases a1 with rfl|a1
      · rw[← hgk,he]
      · rcases a2 with rfl|a2
        · rw[← hgk',he']
        · rw[zb1 a1]at a2;cases a2
     rw[hee]at he'
     obtain⟨g1,g2,g3,g4,g5,g6,g7⟩:=hy.step hU hp' he'
     have hcy:=zht hy hp'
     rw[he']at hcy
     have sc:Sim id0 (cutW x p) (cutW y p'):=by
      refine⟨s.id,s.ev,fun f hf=>?_,fun f hf=>s.ny f ((hcy f).1 hf).1⟩
      rw[hcy,hcx,s.wt f hf]
      exact⟨fun h=>⟨⟨h.1.1,h.2⟩,h.1.2⟩,fun h=>⟨⟨h.1.1,h.2⟩,h.1.2⟩⟩
     have hadds:=Sim.add hU h2 g2 sc h5 h6 h7 c1 c2 h3 h4 g4 i1 fun hk=>hF.rejx (hx.fine hU) hlx hk
     rw[yi0 hny,he']
     rw[hx1]at hadds
     refine ih _ f1 ?_ hadds.2 hl
     rcases g2.add hU g5 g6 g7 g3 g4 with ⟨_,b⟩|⟨_,b,_⟩
     · rw[b];exact g2
     · exact b
theorem zo6 (e:Evt):(kept e).id=e.id:=by
 unfold kept
 split<;>rfl
theorem zzz {room:Bytes} {l:List Evt} {e g:Evt} (h:SetF U room l) (hr:e.room=room) (hg:getE l e.id=some g):∀ f,f∈(putE l e).1↔(f∈l∧f.id≠e.id)∨f=(if yra e=true∧yra g=false then e else g):=by
 have hany:l.any (fun x=>x.room != e.room)=false:=by
  rw[List.any_eq_false]
  intro x hx
  rw[h.rm x hx,hr];simp
 have hnd:=yj5 h.srt
 unfold putE
 rw[if_neg (by rw[hany];decide),hg]
 simp only
 have hgm:g∈l:=List.mem_of_find?_eq_some hg
 have huniq:∀ f∈l,f.id=e.id→f=g:=fun f hf hi=>by
  have h1:=zm2 hnd hf
  rw[hi,hg]at h1
  exact (Option.some.inj h1).symm
 split
 · obtain⟨hf,hi⟩|⟨k,hk,hf,hi,hid⟩:=zmu l e.id
   · rw[hf]at hg;cases hg
   · rw[hi]
     simp only[Int.toNat_natCast]
     have hkg:l[k]=g:=huniq _ (List.getElem_mem hk) hid
     intro f
     constructor
     · intro hm
       rcases List.mem_iff_getElem.1 hm with ⟨j,hj,rfl⟩
       rw[List.getElem_set]
       split
       · exact .inr rfl
       · rename_i hkj
         have hj':j < l.length:=by simpa using hj
         refine .inl ⟨List.getElem_mem hj',fun hc=>hkj ?_⟩
         rcases Nat.lt_trichotomy k j with hlt|hlt|hlt
         · have:=List.pairwise_iff_getElem.1 h.srt k j hk hj' hlt;omega
         · exact hlt
         · have:=List.pairwise_iff_getElem.1 h.srt j k hj' hk hlt;omega
     · rintro (⟨hm,hne⟩|rfl)
       · obtain⟨j,hj,rfl⟩:=List.mem_iff_getElem.1 hm
         have hjk:k≠j:=fun hc=>hne (by subst hc;exact hid)
         have:(l.set k e)[j]'(by simpa using hj)=l[j]:=by rw[List.getElem_set,if_neg hjk]
         rw[← this]
         exact List.getElem_mem _
       · exact List.mem_iff_getElem.2 ⟨k,by simpa using hk,by simp⟩
 · intro f
   constructor
   · intro hm
     by_cases hi:f.id=e.id
     · exact .inr (huniq f hm hi)
     · exact .inl ⟨hm,hi⟩
   · rintro (⟨hm,_⟩|rfl)
     · exact hm
     · exact hgm
theorem yo9 {l:List Evt} {a b:Evt} (h:Tw a b):yfr l a=yfr l b:=by
 unfold yfr
 rw[h.prev,h.auth]
theorem zp3 {l m:List Evt} (h:m.map (·.id)=l.map (·.id)) (f:Evt):yfr m f=yfr l f:=by
 have hk:∀ n,zpu m n=true↔zpu l n=true:=fun n=>by rw[known_iff,known_iff,h]
 rw[Bool.eq_iff_iff,ready_iff,ready_iff]
 constructor
 · rintro⟨h1,h2⟩
   exact⟨fun n hn=>(hk n).1 (h1 n hn),fun n hn=>(hk n).1 (h2 n hn)⟩
 · rintro⟨h1,h2⟩
   exact⟨fun n hn=>(hk n).2 (h1 n hn),fun n hn=>(hk n).2 (h2 n hn)⟩
theorem Settled.wait (hU:U.length≤24) (hA:Apart U) {r:RoomD} (h:RoomF U r) (hs:Settled r) {e:Evt} (he:e∈U) (hv:yp6 e=0) (hr:e.room=r.id) (hn:getE r.events e.id=none) (hrd:yfr r.events e=false):Settled (waitR r e):=by
 obtain⟨_,_,h3⟩:=h.wait hU hA he hv hr hn
 intro f hf
 obtain⟨g,g1,g2⟩:=h3 f hf
 show yfr r.events f=false
 rw[yo9 g2]
 rcases List.mem_cons.1 g1 with rfl|g1
 · exact hrd
 · exact hs g g1
theorem Settled.recv (hU:U.length≤24) (hA:Apart U) {r:RoomD} (h:RoomF U r) (hs:Settled r) {e:Evt} (he:yp6 (kept e)=0→kept e∈U):Settled (recvR r e).1:=by
 unfold recvR
 split
 · exact hs
 rename_i h0
 obtain⟨hk,hv⟩:=yfy h0
 have hx:=he hv
 rw[hk]
 split
 · exact hs
 rename_i hr
 have hr:=Classical.not_not.1 hr
 split
 · rename_i hso
   obtain⟨p1,p2,p3,p4,p5,p6⟩:=zz1 hA h.es hx hv hr hso
   intro f hf
   show yfr (orL (putE r.events (kept e)) r.events) f=false
   unfold orL
   rw[if_pos p3,zp3 p2]
   exact hs f hf
 rename_i hso
 have hn:=ypg hso
 split
 · rename_i hw
   refine hs.wait hU hA h hx hv hr hn ?_
   obtain⟨g,hg⟩:=Option.isSome_iff_exists.1 hw
   have hgm:=List.mem_of_find?_eq_some hg
   rw[← yo9 (hA g (h.ws.inU g hgm) _ hx (zmz hg))]
   exact hs g hgm
 rename_i hw
 split
 · unfold takeR
   rcases h.add hU hx hv hr hn (ypg hw) with ⟨g1,g2⟩|⟨g1,g2,_⟩
   · rw[if_pos g1]
     exact hs
   · rw[if_neg (not_not_intro g1)]
     exact settled_iff.1 (RoomF.settle hU _ g2).2.2.2
 rename_i hrd
 split
 · exact hs
 · exact hs.wait hU hA h hx hv hr hn (by simpa using hrd)
theorem Sim.recvX (hU:U.length≤24) (hA:Apart U) (hF:EndF id0 F) (hx:RoomF U x) (hy:RoomF U y) (s:Sim id0 x y) (hs:Settled y) {e:Evt} (he:yp6 (kept e)=0→kept e∈U) (hi:e.id=id0) (hl:Le (recvR x e).1.events F):Sim id0 (recvR x e).1 y:=by
 have hki:(kept e).id=id0:=(zo6 e).trans hi
 unfold recvR at hl ⊢
 split
 · exact s
 rename_i h0
 obtain⟨hk,hv⟩:=yfy h0
 have hxU:=he hv
 rw[hk]at hl ⊢
 rw[if_neg h0]at hl
 split
 · exact s
 rename_i hr
 rw[if_neg hr]at hl
 have hr:=Classical.not_not.1 hr
 split
 · rename_i hso
   obtain⟨_,_,k3⟩:=hx.keep hU hA hxU hv hr hso
   exact s.onX rfl (fun f hf=>k3 f (by rw[hki];exact hf)) fun f _ _=>Iff.rfl
 rename_i hso
 rw[if_neg hso]at hl
 have hn:=ypg hso
 split
 · obtain⟨_,k2,_⟩:=hx.wait hU hA hxU hv hr hn
   exact s.onX rfl (fun f _=>Iff.rfl) fun f _ hf=>k2 f (by rw[hki];exact hf)
 rename_i hw
 rw[if_neg hw]at hl
 split
 · rename_i hrd
   rw[if_pos hrd]at hl
   unfold takeR at hl ⊢
   rcases hx.add hU hxU hv hr hn (ypg hw) with ⟨g1,g2⟩|⟨g1,g2,g3,g4,g5,_⟩
   · rw[if_pos g1]
     exact s
   · rw[if_neg (not_not_intro g1)]at hl ⊢
     have s1:Sim id0 (addR x (kept e)).1 y:=s.onX g5 (fun f hf=>by
      rw[g3]
      exact⟨fun h=>h.elim (fun h=>h) fun h=>absurd (by rw[h];exact hki) hf,.inl⟩) fun f _ _=>by rw[g4]
     have:=Sim.settle hU hA hF _ y g2 hy s1 hl
     rw[yiy (settled_iff.2 hs)]at this
     exact this
 split
 · exact s
 · obtain⟨_,k2,_⟩:=hx.wait hU hA hxU hv hr hn
   exact s.onX rfl (fun f _=>Iff.rfl) fun f _ hf=>k2 f (by rw[hki];exact hf)
theorem Sim.waitBoth (hU:U.length≤24) (hA:Apart U) (hx:RoomF U x) (hy:RoomF U y) (s:Sim id0 x y) {e:Evt} (he:e∈U) (hv:yp6 e=0) (hr:e.room=x.id) (hne:e.id≠id0) (hnr:noref id0 e=true):Sim id0 (waitR x e) (waitR y e):=by
 have hry:e.room=y.id:=by rw[← s.id];exact hr
 refine⟨s.id,s.ev,fun f hf=>?_,fun f hf=>?_⟩
 · show f∈orL (putE y.waiting e) y.waiting↔f∈orL (putE x.waiting e) x.waiting∧f.id≠id0
   unfold orL
   cases hg:getE x.waiting e.id with
   | some g =>
    have hgm:=List.mem_of_find?_eq_some hg
    have hgi:=zmz hg
    have hgn:noref id0 g=true:=by rw[zss (hA g (hx.ws.inU g hgm) e he hgi)];exact hnr
    have hgy:g∈y.waiting:=(s.wt g hgn).2 ⟨hgm,by rw[hgi];exact hne⟩
    have hgy2:getE y.waiting e.id=some g:=by rw[← hgi];exact zm2 (yj5 hy.ws.srt) hgy
    obtain⟨_,_,p3,_⟩:=zz1 hA hx.ws he hv hr (by rw[hg];rfl)
    obtain⟨_,_,q3,_⟩:=zz1 hA hy.ws he hv hry (by rw[hgy2];rfl)
    rw[if_pos p3,if_pos q3,zzz hx.ws hr hg,zzz hy.ws hry hgy2,s.wt f hf]
    constructor
    · rintro (⟨⟨h1,h2⟩,h3⟩|rfl)
      · exact⟨.inl ⟨h1,h3⟩,h2⟩
      · refine⟨.inr rfl,?_⟩
        split
        · exact hne
        · rw[hgi];exact hne
    · rintro⟨⟨h1,h3⟩|rfl,h2⟩
      · exact .inl ⟨⟨h1,h2⟩,h3⟩
      · exact .inr rfl
   | none =>
    have hgy:getE y.waiting e.id=none:=by
     cases hg2:getE y.waiting e.id with
     | none=>rfl
     | some g =>
      have hgm:=List.mem_of_find?_eq_some hg2
      have hgi:=zmz hg2
      have hgn:noref id0 g=true:=by rw[zss (hA g (hy.ws.inU g hgm) e he hgi)];exact hnr
      have h1:=zp2 ((s.wt g hgn).1 hgm).1
      unfold zpu at h1
      rw[hgi,hg]at h1
      cases h1
    obtain⟨p1,_,p3⟩:=zz0 hU hx.ws he hv hr hg
    obtain⟨q1,_,q3⟩:=zz0 hU hy.ws he hv hry hgy
    rw[if_pos p1,if_pos q1,p3,q3,s.wt f hf]
    constructor
    · rintro (⟨h1,h2⟩|rfl)
      · exact⟨.inl h1,h2⟩
      · exact⟨.inr rfl,hne⟩
    · rintro⟨h1|rfl,h2⟩
      · exact .inl ⟨h1,h2⟩
      · exact .inr rfl
 · rcases zu0 hf with h|rfl
   · exact s.ny f h
   · exact hne
theorem yq6 (hU:U.length≤24) (hA:Apart U) {r:RoomD} (h:RoomF U r) {e:Evt} (he:e∈U) (hv:yp6 e=0) (hr:e.room=r.id) (hn:getE r.events e.id=none) (hnr:noref id0 e=false):∀ f,noref id0 f=true→(f∈(waitR r e).waiting↔f∈r.waiting):=fun f hf=>by
 obtain⟨k1,k2,_⟩:=h.wait hU hA he hv hr hn
 by_cases hi:f.id=e.id
 · constructor
   · intro hm
     have:=hA f (k1.ws.inU f hm) e he hi
     rw[zss this,hnr]at hf;cases hf
   · intro hm
     have:=hA f (h.ws.inU f hm) e he hi
     rw[zss this,hnr]at hf;cases hf
 · exact k2 f hi
theorem Sim.recv (hU:U.length≤24) (hA:Apart U) (hF:EndF id0 F) (hx:RoomF U x) (hy:RoomF U y) (s:Sim id0 x y) {e:Evt} (he:yp6 (kept e)=0→kept e∈U) (hi:e.id≠id0) (hl:Le (recvR x e).1.events F):Sim id0 (recvR x e).1 (recvR y e).1:=by
 have hki:(kept e).id≠id0:=by rw[zo6];exact hi
 have hlx:Le x.events F:=(hx.recv hU hA he).2.1.trans' hl
 unfold recvR at hl ⊢
 by_cases h0:(recvE e).2≠0
 · rw[if_pos h0,if_pos h0];exact s
 rw[if_neg h0]at hl ⊢
 rw[if_neg h0]
 obtain⟨hk,hv⟩:=yfy h0
 have hxU:=he hv
 rw[hk]at hl ⊢
 rw[← s.id]
 by_cases hr:(kept e).room≠x.id
 · rw[if_pos hr,if_pos hr];exact s
 rw[if_neg hr]at hl ⊢
 rw[if_neg hr]
 have hr:=Classical.not_not.1 hr
 have hry:(kept e).room=y.id:=by rw[← s.id];exact hr
 cases hnr:noref id0 (kept e) with
 | true =>
  cases hg:getE x.events (kept e).id with
  | some g =>
   have hgm:=List.mem_of_find?_eq_some hg
   have hgi:=zmz hg
   have hgy:getE y.events (kept e).id=some g:=by
    rw[← hgi]
    exact zm2 (yj5 hy.es.srt) ((s.ev g).2 ⟨hgm,by rw[hgi];exact hki⟩)
   rw[hgy]
   simp only[Option.isSome_some,if_true]
   obtain⟨_,_,p3,_⟩:=zz1 hA hx.es hxU hv hr (by rw[hg];rfl)
   obtain⟨_,_,q3,_⟩:=zz1 hA hy.es hxU hv hry (by rw[hgy];rfl)
   refine⟨s.id,fun f=>?_,s.wt,s.ny⟩
   show f∈orL (putE y.events (kept e)) y.events↔f∈orL (putE x.events (kept e)) x.events∧f.id≠id0
   unfold orL
   rw[if_pos p3,if_pos q3,zzz hx.es hr hg,zzz hy.es hry hgy,s.ev]
   constructor
   · rintro (⟨⟨h1,h2⟩,h3⟩|rfl)
     · exact⟨.inl ⟨h1,h3⟩,h2⟩
     · refine⟨.inr rfl,?_⟩
       split
       · exact hki
       · rw[hgi];exact hki
   · rintro⟨⟨h1,h3⟩|rfl,h2⟩
     · exact .inl ⟨⟨h1,h2⟩,h3⟩
     · exact .inr rfl
  | none =>
   have hgy:=s.get hg
   rw[hg]at hl
   rw[hgy]
   simp only[Option.isSome_none,Bool.false_eq_true,if_false]at hl ⊢
   have hww:(getE x.waiting (kept e).id).isSome=(getE y.waiting (kept e).id).isSome:=by
    rw[Bool.eq_iff_iff]
    constructor
    · intro h
      obtain⟨g,hg⟩:=Option.isSome_iff_exists.1 h
      have hgm:=List.mem_of_find?_eq_some hg
      have hgi:=zmz hg
      have hgn:noref id0 g=true:=by rw[zss (hA g (hx.ws.inU g hgm) _ hxU hgi)];exact hnr
      have:=zp2 ((s.wt g hgn).2 ⟨hgm,by rw[hgi];exact hki⟩)
      rw[hgi]at this
      exact this
    · intro h
      obtain⟨g,hg⟩:=Option.isSome_iff_exists.1 h
      have hgm:=List.mem_of_find?_eq_some hg
      have hgi:=zmz hg
      have hgn:noref id0 g=true:=by rw[zss (hA g (hy.ws.inU g hgm) _ hxU hgi)];exact hnr
      have:=zp2 ((s.wt g hgn).1 hgm).1
      rw[hgi]at this
      exact this
   rw[← hww]
   cases hw:(getE x.waiting (kept e).id).isSome with
   | true =>
    simp only[if_true]
    exact Sim.waitBoth hU hA hx hy s hxU hv hr hki hnr
   | false =>
    rw[hw]at hl hww
    simp only[Bool.false_eq_true,if_false]at hl ⊢
    have hwx:=ypg (l:=x.waiting) (n:=(kept e).id) (by rw[hw];decide)
    have hwy:=ypg (l:=y.waiting) (n:=(kept e).id) (by rw[← hww];decide)
    have hrr:yfr x.events (kept e)=yfr y.events (kept e):=by
     rw[Bool.eq_iff_iff];exact s.ready hnr
    rw[← hrr]
    cases hrd:yfr x.events (kept e) with
    | true =>
     rw[hrd]at hl
     simp only[if_true]at hl ⊢
     obtain⟨a1,a2⟩:=Sim.add hU hx hy s hxU hv hr hki hnr hg hwx hwy hrd fun hk=>hF.rejx (hx.fine hU) hlx hk
     unfold takeR at hl ⊢
     rcases hx.add hU hxU hv hr hg hwx with ⟨g1,g2⟩|⟨g1,g2,_⟩
     · rw[if_pos g1,if_pos (a1.1 g1)]
       exact s
     · have gy:¬ (addR y (kept e)).2≠0:=fun h=>absurd g1 (a1.2 h)
       rw[if_neg (not_not_intro g1)]at hl ⊢
       rw[if_neg gy]
       rcases hy.add hU hxU hv hry hgy hwy with ⟨b1,_⟩|⟨_,b2,_⟩
       · exact absurd b1 gy
       · exact Sim.settle hU hA hF _ _ g2 b2 a2 hl
    | false =>
     simp only[Bool.false_eq_true,if_false]
     have l1:=hx.ws.short hU
     have l2:=hy.ws.short hU
     rw[if_neg (by omega),if_neg (by omega)]
     exact Sim.waitBoth hU hA hx hy s hxU hv hr hki hnr
 | false =>
  have hg:getE x.events (kept e).id=none:=by
   cases hg:getE x.events (kept e).id with
   | none=>rfl
   | some g =>
    have hgm:=List.mem_of_find?_eq_some hg
    have h1:=hF.nrx hlx g hgm
    rw[zss (hA g (hx.es.inU g hgm) _ hxU (zmz hg)),hnr]at h1
    cases h1
  have hgy:=s.get hg
  rw[hg]at hl ⊢
  rw[hgy]
  simp only[Option.isSome_none,Bool.false_eq_true,if_false]at hl ⊢
  have hrdy:yfr y.events (kept e)=false:=by
   cases h:yfr y.events (kept e) with
   | false=>rfl
   | true=>rw[s.noref_of_ready h]at hnr;cases hnr
  have l1:=hx.ws.short hU
  have l2:=hy.ws.short hU
  have hY:∀ z,Sim id0 z y→Sim id0 z (waitR y (kept e)):=fun z sz =>
   sz.onY rfl rfl (yq6 hU hA hy hxU hv hry hgy hnr) fun f hf=>by
    rcases zu0 hf with h|rfl
    · exact s.ny f h
    · exact hki
  have hX:Sim id0 (waitR x (kept e)) y:=s.onX rfl (fun f _=>Iff.rfl) fun f hf _=>yq6 hU hA hx hxU hv hr hg hnr f hf
  have hyr:(if (getE y.waiting (kept e).id).isSome=true then (waitR y (kept e),1,0) else if yfr y.events (kept e)=true then takeR y (kept e) else if 200≤y.waiting.length then (y,0,29) else (waitR y (kept e),1,0):RoomD×Int×Int).1=waitR y (kept e):=by
   split
   · rfl
   · rw[hrdy,if_neg (by decide),if_neg (by omega)]
  rw[hyr]
  refine hY _ ?_
  cases hw:(getE x.waiting (kept e).id).isSome with
  | true =>
   simp only[if_true]
   exact hX
  | false =>
   rw[hw]at hl
   simp only[Bool.false_eq_true,if_false]at hl ⊢
   have hwx:=ypg (l:=x.waiting) (n:=(kept e).id) (by rw[hw];decide)
   cases hrd:yfr x.events (kept e) with
   | true =>
    rw[hrd]at hl
    simp only[if_true]at hl ⊢
    unfold takeR at hl ⊢
    rcases hx.add hU hxU hv hr hg hwx with ⟨g1,g2⟩|⟨g1,g2,g3,_⟩
    · rw[if_pos g1]
      exact s
    · exfalso
      rw[if_neg (not_not_intro g1)]at hl
      have h1:=(RoomF.settle hU _ g2).2.1.trans' hl
      have h2:=hF.nrx h1 (kept e) ((g3 _).2 (.inr rfl))
      rw[hnr]at h2;cases h2
   | false =>
    simp only[Bool.false_eq_true,if_false]
    rw[if_neg (by omega)]
    exact hX
theorem Sim.run (hU:U.length≤24) (hA:Apart U) (hF:EndF id0 F):∀ (L:List Evt) {x y:RoomD},RoomF U x→RoomF U y→Settled y→Sim id0 x y→(∀ e∈L,yp6 (kept e)=0→kept e∈U)→Le (recvAll x L).events F→Sim id0 (recvAll x L) (recvAll y (L.filter fun e=>e.id != id0))
 | [],x,y,_,_,_,s,_,_=>s
 | e::L,x,y,hx,hy,hs,s,hL,hl=>by
  have he:=hL e (List.mem_cons_self ..)
  have hL':∀ e∈L,yp6 (kept e)=0→kept e∈U:=fun z hz=>hL z (List.mem_cons_of_mem _ hz)
  obtain⟨x1,_,_⟩:=hx.recv hU hA he
  have hl1:Le (recvR x e).1.events F:=(RoomF.recvAll hU hA L x1 hL').2.trans' hl
  rw[List.filter_cons]
  by_cases hi:e.id=id0
  · rw[if_neg (by simp[hi])]
    exact Sim.run hU hA hF L x1 hy hs (Sim.recvX hU hA hF hx hy s hs he hi hl1) hL' hl
  · rw[if_pos (by simp[hi])]
    obtain⟨y1,_,_⟩:=hy.recv hU hA he
    exact Sim.run hU hA hF L x1 y1 (hs.recv hU hA hy he) (Sim.recv hU hA hF hx hy s he hi hl1) hL' hl
theorem Sim.start (id0:Int) (b:Bytes):Sim id0 (room0 b) (room0 b) :=
 ⟨rfl,fun f=>⟨fun h=>(by cases h),fun h=>h.1⟩,fun f _=>⟨fun h=>(by cases h),fun h=>h.1⟩,fun f h=>(by cases h)⟩
theorem zka {α:Type} (p:α→Bool):∀ l:List α,l.length=(l.filter p).length+(l.filter fun x=>!p x).length
 | []=>rfl
 | a::l=>by
  have:=zka p l
  rw[List.filter_cons,List.filter_cons,List.length_cons]
  cases p a<;>simp<;>omega
theorem ype (hU:U.length≤24) (hA:Apart U) (b:Bytes) (L:List Evt) (hL:∀ e∈L,yp6 (kept e)=0→kept e∈U) {w:RowD} (hw:w∈(recvAll (room0 b) L).rows) (h2:w.status=2) (hn:∀ f∈(recvAll (room0 b) L).events,noref w.id f=true) :
 (recvAll (room0 b) L).state=(recvAll (room0 b) (L.filter fun e=>e.id != w.id)).state∧(recvAll (room0 b) L).heads=(recvAll (room0 b) (L.filter fun e=>e.id != w.id)).heads∧(recvAll (room0 b) (L.filter fun e=>e.id != w.id)).events.length+1=(recvAll (room0 b) L).events.length:=by
 obtain⟨hx,_⟩:=RoomF.recvAll hU hA L (RoomF.new U b) hL
 obtain⟨hy,_⟩:=RoomF.recvAll hU hA (L.filter fun e=>e.id != w.id) (RoomF.new U b) fun e he=>hL e (List.mem_filter.1 he).1
 obtain⟨w1,w2⟩:=hx.rows w hw
 have hF:EndF w.id (recvAll (room0 b) L).events:=⟨hx.fine hU,hn,fun _=>w2 h2⟩
 have s:=Sim.run hU hA hF L (RoomF.new U b) (RoomF.new U b) (fun f hf=>(by cases hf)) (Sim.start w.id b) hL (Le.rfl' _)
 generalize recvAll (room0 b) L=x at *
 generalize recvAll (room0 b) (L.filter fun e=>e.id != w.id)=y at *
 have hyx:y.events=x.events.filter fun f=>f.id != w.id:=yj4 hy.es.srt (hx.es.srt.filter _) fun f=>by
  rw[s.ev,List.mem_filter]
  simp
 have fx:=hx.fine hU
 have fy:=hy.fine hU
 have hl:Le y.events x.events:=Le.sub fun f hf=>((s.ev f).1 hf).1
 have ha:=hl.agree fy.closed fx.nd
 have hD:∀ f∈x.events,zpu y.events f.id=(f.id != w.id):=fun f hf=>by
  rw[Bool.eq_iff_iff]
  constructor
  · intro h
    obtain⟨g,g1,g2,_⟩:=zp1 h
    have:=((s.ev g).1 g1).2
    rw[g2]at this
    simpa using this
  · intro h
    exact zp2 ((s.ev f).2 ⟨hf,by simpa using h⟩)
 have hi:(y.events.map (·.id)).filter (zpu y.events)=(x.events.map (·.id)).filter (zpu y.events):=by
  have h1:(y.events.map (·.id)).filter (zpu y.events)=y.events.map (·.id):=List.filter_eq_self.2 fun n hn=>known_iff.2 hn
  have h3:(x.events.map (·.id)).filter (zpu y.events)=(x.events.filter fun f=>f.id != w.id).map (·.id):=by
   rw[List.filter_map]
   congr 1
   exact zj9 fun f hf=>hD f hf
  rw[h1,h3,← hyx]
 have hr:∀ n∈y.events.map (·.id),zpu y.events n=false→whyI y.events n≠0:=fun n hn hk=>by rw[known_iff.2 hn]at hk;cases hk
 have hr':∀ n∈x.events.map (·.id),zpu y.events n=false→whyI x.events n≠0:=fun n hn hk=>by
  obtain⟨f,f1,rfl⟩:=List.mem_map.1 hn
  rw[hD f f1]at hk
  have:f.id=w.id:=by simpa using hk
  rw[this]
  exact w2 h2
 refine⟨by rw[hx.stt,hy.stt,ha.current fy fx hi hr hr'],by rw[hx.hd,hy.hd,ha.heads fy fx hi hr hr'],?_⟩
 obtain⟨f0,g1,g2,_⟩:=zp1 w1
 rw[hyx]
 have hp:x.events.filter (fun f=>f.id==w.id)=[f0]:=by
  refine yj4 (hx.es.srt.filter _) (List.pairwise_singleton _ _) fun f=>?_
  rw[List.mem_filter,List.mem_singleton]
  constructor
  · rintro⟨h1,h3⟩
    have h4:=zm2 fx.nd h1
    have h5:=zm2 fx.nd g1
    have:f.id=f0.id:=by rw[g2];simpa using h3
    rw[this,h5]at h4
    exact (Option.some.inj h4).symm
  · rintro rfl
    exact⟨g1,by simp[g2]⟩
 have hsum:=zka (fun f:Evt=>f.id==w.id) x.events
 rw[hp]at hsum
 have hne:x.events.filter (fun f=>!(f.id==w.id))=x.events.filter fun f=>f.id != w.id:=rfl
 rw[hne]at hsum
 simp only[List.length_cons,List.length_nil]at hsum
 omega
end Go.Proofs.YthjmjdleecmaeaaGreat
namespace Go.Proofs.YthjmjdleecmaeaaGreat
open Go Go.Abs
def okK (e:Evt):Bool:=yp6 (kept e)==0
def zv9 (l:List Evt):List Evt:=(l.filter okK).map kept
theorem zwc (l:List Evt):(zv9 l).length≤l.length:=by
 unfold zv9
 rw[List.length_map]
 exact List.length_filter_le _ _
theorem zwb {l:List Evt} {e:Evt} (he:e∈l) (hv:yp6 (kept e)=0):kept e∈zv9 l :=
 List.mem_map.2 ⟨e,List.mem_filter.2 ⟨he,by unfold okK;rw[hv];rfl⟩,rfl⟩
theorem zwd {l:List Evt} {x:Evt} (h:x∈zv9 l):∃ e∈l,x=kept e∧yp6 x=0:=by
 unfold zv9 at h
 obtain⟨e,he,rfl⟩:=List.mem_map.1 h
 obtain⟨h1,h2⟩:=List.mem_filter.1 he
 exact⟨e,h1,rfl,by simpa [okK] using h2⟩
theorem zo7 (e:Evt):Tw (kept e) e:=by
 unfold kept
 split
 · exact Eq.refl _
 · exact Tw.strip e
theorem kept_sm {e:Evt} (h:SmE e):SmE (kept e):=by
 unfold kept
 split
 · exact h
 · exact h.strip
theorem yle (k:Int) (c:Content):(yk1 k c).levels.users.length≤c.levels.users.length∧(yk1 k c).levels.kinds.length≤c.levels.kinds.length:=by
 unfold yk1
 split
 · exact⟨Nat.le_refl _,Nat.le_refl _⟩
 split
 · exact⟨Nat.zero_le _,Nat.zero_le _⟩
 split
 · exact⟨Nat.le_refl _,Nat.le_refl _⟩
 split
 · exact⟨Nat.zero_le _,Nat.zero_le _⟩
 split
 · exact⟨Nat.zero_le _,Nat.zero_le _⟩
 split
 · exact⟨Nat.zero_le _,Nat.zero_le _⟩
 split
 · exact⟨Nat.zero_le _,Nat.zero_le _⟩
 · exact⟨Nat.zero_le _,Nat.zero_le _⟩
theorem kept_md {e:Evt} (h:Mod e):Mod (kept e):=by
 unfold kept
 split
 · exact h
 · obtain⟨h1,h2⟩:=yle e.kind e.content
   exact⟨Nat.le_trans h1 h.a4,Nat.le_trans h2 h.a5⟩
theorem zwe {l:List Evt} (hl:l.length≤12) (hs:∀ e∈l,SmE e) (hm:∀ e∈l,Mod e):Pool (zv9 l):=by
 refine⟨Nat.le_trans (zwc l) hl,fun x hx=>?_,fun x hx=>?_,fun x hx=>?_,fun x hx=>?_⟩
 · obtain⟨e,he,rfl,_⟩:=zwd hx
   exact kept_sm (hs e he)
 · obtain⟨e,he,rfl,_⟩:=zwd hx
   exact kept_md (hm e he)
 · obtain⟨e,he,_,hv⟩:=zwd hx
   have:=(yp8 hv).1
   omega
 · obtain⟨e,he,_,hv⟩:=zwd hx
   have:=(yp8 hv).2
   omega
theorem torn_tw {a b:Evt} (h:tornE a b=false):Tw a b:=by
 unfold tornE at h
 rw[Bool.or_eq_false_iff]at h
 have h1:=h.1
 simp at h1
 exact h1
theorem apart_tw {l:List Evt} (h:zdt l=true):∀ a∈l,∀ b∈l,a.id=b.id→Tw a b:=by
 have key:∀ i k,k < i→i < l.length→(l.getD i evZ).id=(l.getD k evZ).id→Tw (l.getD i evZ) (l.getD k evZ):=fun i k hk hi he=>by
  unfold zdt at h
  have h1:=List.all_eq_true.1 h i (List.mem_range.2 hi)
  unfold okRow at h1
  have h2:=List.all_eq_true.1 h1 k (List.mem_range.2 hk)
  unfold ztl at h2
  rw[beq_iff_eq.2 he,Bool.true_and]at h2
  exact torn_tw (by simpa using h2)
 intro a ha b hb he
 obtain⟨i,hi,rfl⟩:=List.mem_iff_getElem.1 ha
 obtain⟨k,hk,rfl⟩:=List.mem_iff_getElem.1 hb
 have gi:l.getD i evZ=l[i]:=by simp[List.getD,hi]
 have gk:l.getD k evZ=l[k]:=by simp[List.getD,hk]
 rcases Nat.lt_trichotomy i k with hlt|rfl|hlt
 · have:=key k i hlt hk (by rw[gi,gk,he])
   rw[gi,gk]at this
   exact this.symm'
 · exact Eq.refl _
 · have:=key i k hlt hi (by rw[gi,gk,he])
   rw[gi,gk]at this
   exact this
theorem zwa {l:List Evt} (h:zdt l=true):Apart (zv9 l):=fun a ha b hb he=>by
 obtain⟨x,hx,rfl,_⟩:=zwd ha
 obtain⟨y,hy,rfl,_⟩:=zwd hb
 rw[zo6,zo6]at he
 exact ((zo7 x).trans' (apart_tw h x hx y hy he)).trans' (zo7 y).symm'
end Go.Proofs.YthjmjdleecmaeaaGreat
