/- Several texts of the proof in one: Fd, Fe. No condition. -/
import Derived.Test.YthjmjdleecmaeaaGreatL01
set_option linter.unusedSimpArgs false
set_option linter.unusedVariables false
set_option maxHeartbeats 4000000
set_option maxRecDepth 8000
namespace Go.Abs
open Go Go.RowKit
theorem BR.mono {E E':Env} {base:Nat} {o:Own} {blk:Blk} (hle:E.Le E') (hb:∀ b,blk.at o=some b→E'.w.heap[b]? = E.w.heap[b]? ∧ (E'.S b→E.S b)) (h:BR E base o blk):BR E' base o blk:=by
 cases blk with
 | none=>trivial
 | arr e sz xs =>
  obtain⟨h1,us,hown,hlen,hvs,hblk⟩:=h
  refine⟨h1,us,?_,hlen,hvs.mono hle,fun b hb'=>⟨(hblk b hb').1,fun hS=>(hblk b hb').2 ((hb b hb').2 hS)⟩⟩
  refine⟨hown.1,?_⟩
  rcases hown.2 with hn|⟨g,cap,cur,hv,hg,hh,r⟩
  · exact .inl hn
  · exact .inr ⟨g,cap,cur,hv,hg,by rw[(hb g (by simp[Blk.at,hv,Value.ownBlock])).1];exact hh,r⟩
 | box cs =>
  obtain⟨us,t,hh,h1,h2,h3⟩:=h
  have:=hb o.blk rfl
  exact⟨us,t,by rw[this.1];exact hh,h1,fun hS=>h2 (this.2 hS),h3.mono hle⟩
 | map es clk =>
  obtain⟨hh,h1,h2,h3⟩:=h
  have:=hb o.blk rfl
  exact⟨by rw[this.1];exact hh,h1,h2,fun hS=>h3 (this.2 hS)⟩
 | obj x =>
  obtain⟨hh,h2,h3⟩:=h
  have:=hb o.blk rfl
  exact⟨by rw[this.1];exact hh,h2,fun hS=>h3 (this.2 hS)⟩
 | iter es clk done =>
  obtain⟨b,hS,hm,hh,h2,h3,h4⟩:=h
  have:=hb o.blk rfl
  exact⟨b,hle.S b hS,by rw[hle.heap b hS];exact hm,by rw[this.1];exact hh,h2,fun hS=>h3 (this.2 hS),h4⟩
 | amap m =>
  obtain⟨es,clk,hh,h1,h2,h3,h4,h5⟩:=h
  have:=hb o.blk rfl
  exact⟨es,clk,by rw[this.1];exact hh,h1,h2,fun hS=>h3 (this.2 hS),h4.mono hle,h5⟩
theorem BR.at_lt {E:Env} {base:Nat} {o:Own} {blk:Blk} (h:BR E base o blk) {b:Nat} (hb:blk.at o=some b):base≤b∧b < E.w.heap.size∧¬ E.S b:=by
 cases blk with
 | none=>cases hb
 | arr e sz xs =>
  obtain⟨h1,us,hown,hlen,hvs,hblk⟩:=h
  have:=hown.lt b hb
  exact⟨this.1,this.2,(hblk b hb).2⟩
 | box cs =>
  obtain⟨us,t,hh,h1,h2,h3⟩:=h
  simp only[Blk.at,Option.some.injEq]at hb
  subst hb
  exact⟨h1,(Array.getElem?_eq_some_iff.1 hh).1,h2⟩
 | map es clk =>
  obtain⟨hh,_,h2,h3⟩:=h
  simp only[Blk.at,Option.some.injEq]at hb
  subst hb
  exact⟨h2,(Array.getElem?_eq_some_iff.1 hh).1,h3⟩
 | obj x =>
  obtain⟨hh,h2,h3⟩:=h
  simp only[Blk.at,Option.some.injEq]at hb
  subst hb
  exact⟨h2,(Array.getElem?_eq_some_iff.1 hh).1,h3⟩
 | iter es clk done =>
  obtain⟨b',_,_,hh,h2,h3,_⟩:=h
  simp only[Blk.at,Option.some.injEq]at hb
  subst hb
  exact⟨h2,(Array.getElem?_eq_some_iff.1 hh).1,h3⟩
 | amap m =>
  obtain⟨es,clk,hh,_,h2,h3,_⟩:=h
  simp only[Blk.at,Option.some.injEq]at hb
  subst hb
  exact⟨h2,(Array.getElem?_eq_some_iff.1 hh).1,h3⟩
section
variable {G:Ctx} {st:St} {E:Env} {a:Act}
theorem Rel.defersLe {E':Env} (hr:Rel G st E a) (hle:E.Le E'):∀ d∈a.defers,∃ r,d=⟨.collected r,#[]⟩∧E'.S r∧G.w0.heap.size≤r∧E'.w.heap[r]? = some (.deferred (some []))∧∀ E0,G.e0=some E0→¬ E0.S r:=fun d hd=>by
 obtain⟨r,h1,h2,h3,h4,h5⟩:=hr.defers d hd
 exact⟨r,h1,hle.S r h2,h3,by rw[hle.heap r h2];exact h4,h5⟩
theorem Rel.le0Le {E':Env} (hr:Rel G st E a) (hle:E.Le E'):∀ E0,G.e0=some E0→E0.Le E':=fun E0 h=>(hr.le0 E0 h).trans hle
def St.put (st:St) (dst:Option Tmp) (r:AV):St :=
 match dst with
 | some d=>{ st with σ:=upd st.σ d r }
 | none=>st
theorem Rel.put (hr:Rel G st E a) {dst:Option Tmp} {r:AV} {x:Value} (hx:VR E r x) (hd:∀ d,dst=some d→d < G.n):Rel G (st.put dst r) E (a.put dst x):=by
 cases dst with
 | none=>exact hr
 | some d =>
  have hlt:=hd d rfl
  refine⟨by simpa [Act.put] using hr.size,hr.defers,hr.once,hr.le0,hr.ver,hr.below,hr.Slt,hr.S0,hr.Snew,fun j=>?_,hr.blocks,hr.apart⟩
  have hsz:=hr.size
  by_cases hj:j=d
  · subst hj
    simp only[St.put,upd,if_true,Act.put]
    have:(a.tmps.setIfInBounds j x).getD j undef=x:=by simp[Array.getD_eq_getD_getElem?,hsz,hlt]
    rw[this];exact hx
  · simp only[St.put,upd,hj,if_false,Act.put]
    have:(a.tmps.setIfInBounds d x).getD j undef=a.tmps.getD j undef:=by
     simp[Array.getD_eq_getD_getElem?,Array.getElem?_setIfInBounds_ne (Ne.symm hj)]
    rw[this];exact hr.slots j
theorem Rel.later {E':Env} (hr:Rel G st E a) (hle:E.Le E') (hver:E'.ver=E.ver) (hbelow:Below G.w0.heap.size G.w0 E'.w) (hSlt:∀ b,E'.S b→b < E'.w.heap.size)
 (hnew:∀ b,E'.S b→E.S b∨E.w.heap.size≤b) (hkept:∀ b,b < E.w.heap.size→E'.w.heap[b]? = E.w.heap[b]?):Rel G st E' a:=by
 have hown:∀ id,E'.own id=E.own id:=fun id=>hle.own id (by rw[hver])
 refine⟨hr.size,hr.defersLe hle,hr.once,hr.le0Le hle,hver.trans hr.ver,hbelow,hSlt,fun b hb=>hle.S b (hr.S0 b hb),fun b hb=>?_,fun j=>(hr.slots j).mono hle,fun id=>?_,fun id id' b hne=>?_⟩
 · rcases hnew b hb with h|h
   · exact hr.Snew b h
   · exact .inr (Nat.le_trans hr.below.size h)
 · rw[hown]
   refine (hr.blocks id).mono hle fun b hb=>?_
   have:=(hr.blocks id).at_lt hb
   exact⟨hkept b this.2.1,fun hS=>(hnew b hS).resolve_right (by omega)⟩
 · rw[hown,hown];exact hr.apart id id' b hne
theorem znk (w:World) (o:Obj) (b:Nat) (h:b < w.heap.size):(w.alloc o).heap[b]? = w.heap[b]? := heap_alloc_old w o h
def Env.frozen (E:Env) (o:Obj):Env:={ E with S:=fun b=>E.S b∨b=E.w.heap.size,w:=E.w.alloc o }
theorem Env.le_frozen (E:Env) (hS:∀ b,E.S b→b < E.w.heap.size) (o:Obj):E.Le (E.frozen o) :=
 ⟨fun _ h=>.inl h,fun b hb=>znk _ _ b (hS b hb),fun _=>Nat.le_refl _,fun _ _=>rfl⟩
theorem Rel.frozen (hr:Rel G st E a) (o:Obj):Rel G st (E.frozen o) a :=
 hr.later (E.le_frozen hr.Slt o) rfl (hr.below.alloc hr.below.size o) (fun b hb=>by
  rcases hb with hb|hb
  · have:=hr.Slt b hb;simp[Env.frozen];omega
  · subst hb;simp[Env.frozen]) (fun b hb=>by rcases hb with hb|hb;exact .inl hb;exact .inr (Nat.le_of_eq hb.symm)) (fun b hb=>znk _ _ b hb)
theorem Rel.weaken (hr:Rel G st E a) {d:Nat} {r:AV} (h:∀ x,VR E (st.σ d) x→VR E r x):Rel G { st with σ:=upd st.σ d r } E a :=
 ⟨hr.size,hr.defers,hr.once,hr.le0,hr.ver,hr.below,hr.Slt,hr.S0,hr.Snew,fun j=>by
  by_cases hj:j=d
  · subst hj;simp only[upd,if_true];exact h _ (hr.slots j)
  · simp only[upd,hj,if_false];exact hr.slots j,hr.blocks,hr.apart⟩
theorem Rel.own0 {E':Env} (hr:Rel G st E a) (id:Nat) (blk:Blk) (o:Own) (k:Nat) (hver:E'.ver=upd E.ver id k) (hk:E.ver id≤k) (hown:E'.own=upd E.own id o) (hkeep:k=E.ver id→o=E.own id) (hS:E'.S=E.S)
 (hbelow:Below G.w0.heap.size G.w0 E'.w) (hsz:E.w.heap.size≤E'.w.heap.size)
 (hkept:∀ b,b < E.w.heap.size→(st.h id).at (E.own id)≠some b→E'.w.heap[b]? = E.w.heap[b]?)
 (hblk:BR E' G.w0.heap.size o blk) (hat:∀ b,blk.at o=some b→∀ j,j≠id→(st.h j).at (E.own j)≠some b) :
 Rel G { st with ver:=upd st.ver id k,h:=upd st.h id blk } E' a:=by
 have hle:E.Le E':=by
  refine⟨fun b hb=>by rw[hS];exact hb,fun b hb=>hkept b (hr.Slt b hb) fun h=>((hr.blocks id).at_lt h).2.2 hb,fun j=>?_,fun j hj=>?_⟩
  · rw[hver];by_cases h:j=id<;>simp[upd,h,hk]
  · rw[hown];rw[hver]at hj
    by_cases h:j=id
    · subst h;simp only[upd,if_true]at hj ⊢;exact hkeep hj
    · simp[upd,h]
 refine⟨hr.size,hr.defersLe hle,hr.once,hr.le0Le hle,by rw[hver,hr.ver],hbelow,fun b hb=>?_,fun b hb=>hle.S b (hr.S0 b hb),fun b hb=>?_,fun j=>(hr.slots j).mono hle,fun j=>?_,fun j j' b hne=>?_⟩
 · rw[hS]at hb;exact Nat.lt_of_lt_of_le (hr.Slt b hb) hsz
 · rw[hS]at hb;exact hr.Snew b hb
 · by_cases hj:j=id
   · subst hj;simp only[upd,if_true,hown];exact hblk
   · simp only[upd,hj,if_false,hown]
     refine (hr.blocks j).mono hle fun b hb=>⟨hkept b ((hr.blocks j).at_lt hb).2.1 fun h=>hr.apart j id b hj hb h,fun h=>by rw[hS]at h;exact h⟩
 · by_cases hj:j=id
   · subst hj
     have hj':j'≠j:=Ne.symm hne
     simp only[upd,if_true,hown,hj',if_false]
     intro hb hb'
     exact hat b hb j' hj' hb'
   · by_cases hj':j'=id
     · subst hj'
       simp only[upd,if_true,hown,hj,if_false]
       intro hb hb'
       exact hat b hb' j hj hb
     · simp only[upd,hj,hj',if_false,hown];exact hr.apart j j' b hne
theorem Rel.own {E':Env} (hr:Rel G st E a) (id:Nat) (blk:Blk) (o:Own) (k:Nat) (hver:E'.ver=upd E.ver id k) (hk:E.ver id≤k) (hown:E'.own=upd E.own id o) (hkeep:k=E.ver id→o=E.own id) (hS:E'.S=E.S)
 (hbelow:Below G.w0.heap.size G.w0 E'.w) (hsz:E.w.heap.size≤E'.w.heap.size)
 (hkept:∀ b,b < E.w.heap.size→(st.h id).at (E.own id)≠some b→E'.w.heap[b]? = E.w.heap[b]?)
 (hblk:BR E' G.w0.heap.size o blk) (hat:∀ b,blk.at o=some b→(st.h id).at (E.own id)=some b∨E.w.heap.size≤b) :
 Rel G { st with ver:=upd st.ver id k,h:=upd st.h id blk } E' a :=
 hr.own0 id blk o k hver hk hown hkeep hS hbelow hsz hkept hblk fun b hb j hj hb'=>by
  rcases hat b hb with h|h
  · exact hr.apart j id b hj hb' h
  · have:=((hr.blocks j).at_lt hb').2.1;omega
def zte (st:St):AV→Bool
 | .v x=>x.oneCell'
 | .lst ..|.eptr ..|.fn ..|.mapv ..|.amapv ..=>true
 | .rptr id k _ _=>k==st.ver id
 | .ref id k=>k==st.ver id&&(match st.h id with|.arr ..=>true|.map ..=>true|.amap ..=>true|_=>false)
 | _=>false
theorem ztg (hr:Rel G st E a) {p:AV} {x:Value} (hx:VR E p x) (h:zte st p=true):x.oneCell'=true∧p.cells=[p]:=by
 cases hx with
 | junk _=>cases h
 | v _=>exact⟨h,rfl⟩
 | agg _ _ _ _=>cases h
 | tup _ _ _ _=>cases h
 | lst _ _ _ _ _ _=>exact⟨rfl,rfl⟩
 | lstNil _=>exact⟨rfl,rfl⟩
 | lstNo _ _ _ _=>exact⟨rfl,rfl⟩
 | eptr _ _ _ _ _=>exact⟨rfl,rfl⟩
 | fn _ _ _ _ _=>exact⟨rfl,rfl⟩
 | mapv _ _ _ _ _=>exact⟨rfl,rfl⟩
 | full _ _ _ _=>exact⟨rfl,rfl⟩
 | osl _ _ _ _ _ _ _ _=>cases h
 | amapv _ _ _ _ _ _ _ _ _=>exact⟨rfl,rfl⟩
 | iface _ _ _ _=>cases h
 | rptr id k i j x h1 h2 =>
  simp only[zte,beq_iff_eq]at h
  rw[h2 (by rw[hr.ver];exact h)];exact⟨rfl,rfl⟩
 | ref id k x h1 h2 =>
  simp only[zte,Bool.and_eq_true,beq_iff_eq]at h
  refine⟨?_,rfl⟩
  rw[h2 (by rw[hr.ver];exact h.1)]
  have hb:=hr.blocks id
  have h3:=h.2
  split at h3
  · rename_i e sz xs hh
    rw[hh]at hb
    obtain⟨_,us,hown,_⟩:=hb
    rcases hown.2 with ⟨hv,_⟩|⟨g,cap,cur,hv,_⟩<;>rw[hv]<;>rfl
  · rename_i es clk hh
    rw[hh]at hb
    rw[hb.2.1];rfl
  · rename_i m hh
    rw[hh]at hb
    obtain⟨_,_,_,hv,_⟩:=hb
    rw[hv];rfl
  · cases h3
def zth (st:St) (p:AV):Bool:=p.cells.all (zte st)
theorem zue {x:Value} (h:x.oneCell'=true):x.cells=#[x]:=by
 cases x<;>first|rfl|cases h
theorem ztj (hr:Rel G st E a) {p:AV} {x:Value} (hx:VR E p x) (h:zth st p=true) :
 VRs E p.cells x.cells.toList∧∀ u∈x.cells.toList,u.oneCell'=true:=by
 by_cases hagg:∃ cs,p=.agg cs
 · obtain⟨cs,rfl⟩:=hagg
   cases hx with
   | agg _ us hl hc =>
    simp only[zth,AV.cells,List.all_eq_true]at h
    refine⟨⟨by simpa [AV.cells,Value.cells] using hl,fun i c u hi hu=>?_⟩,fun u hu=>?_⟩
    · simp only[AV.cells,Value.cells,Array.getElem?_toList]at hi hu
      have:=hc i c hi
      simpa [Array.getD_eq_getD_getElem?,hu] using this
    · simp only[Value.cells]at hu
      obtain⟨i,hi⟩:=List.mem_iff_getElem?.1 hu
      have hlt:i < cs.length:=by rw[hl];simpa using (List.getElem?_eq_some_iff.1 hi).1
      have hci:cs[i]? = some cs[i]:=List.getElem?_eq_getElem hlt
      have h1:=hc i _ hci
      simp only[Array.getElem?_toList]at hi
      have hu':us.getD i undef=u:=by simp[Array.getD_eq_getD_getElem?,hi]
      rw[hu']at h1
      exact (ztg hr h1 (h _ (List.mem_of_getElem? hci))).1
 · have hcells:p.cells=[p]:=by cases p<;>first|rfl|exact absurd ⟨_,rfl⟩ hagg
   have hc:zte st p=true:=by simpa [zth,hcells] using h
   have h1:=ztg hr hx hc
   rw[zue h1.1,hcells]
   refine⟨⟨by simp,fun i c u hi hu=>?_⟩,by simpa using h1.1⟩
   cases i with
   | zero=>simp at hi hu;subst hi;subst hu;exact hx
   | succ i=>simp at hi
theorem zmj (E:Env) (us:Array Value) (t:TypeId) (k:Nat) (h:k < us.size):(E.frozen (.cells us t (0,0))).w.cell? ⟨E.w.heap.size,0+k,none⟩=some (us.getD k undef):=by
 show (E.w.alloc (.cells us t (0,0))).cell? ⟨E.w.heap.size,0+k,none⟩=_
 rw[cell_of_row _ _ _ us t (0,0) (heap_alloc_new _ _)]
 simp[Array.getD_eq_getD_getElem?,h]
theorem Rel.boxFrozen (hr:Rel G st E a) {p:AV} {x:Value} (hx:VR E p x) (h:zth st p=true) (t:TypeId) :
 Rel G st (E.frozen (.cells x.cells t (0,0))) a∧VR (E.frozen (.cells x.cells t (0,0))) (.eptr p.cells 0) (.pointer (some ⟨E.w.heap.size,0,none⟩)):=by
 obtain⟨hv,_⟩:=ztj hr hx h
 have hl:p.cells.length=x.cells.size:=by simpa using hv.1
 refine⟨hr.frozen _,.eptr p.cells 0 E.w.heap.size 0 (fun k=>x.cells.getD k undef) (.inr rfl) (fun k hk=>zmj E _ t k (by omega)) fun k c hk=>?_⟩
 have hlt:k < x.cells.size:=by rw[← hl];exact (List.getElem?_eq_some_iff.1 hk).1
 refine VR.mono (E.le_frozen hr.Slt _) (hv.2 k c _ hk ?_)
 simp[Array.getD_eq_getD_getElem?,hlt]
theorem Rel.boxOwn (hr:Rel G st E a) {cs:List AV} {us:Array Value} (hv:VRs E cs us.toList) (t:TypeId) (id:Nat) :
 ∃ E',E'.w=E.w.alloc (.cells us t (0,0))∧Rel G { st with ver:=upd st.ver id (st.ver id+1),h:=upd st.h id (.box cs) } E' a∧VR E' (.rptr id (st.ver id+1) 0 0) (.pointer (some ⟨E.w.heap.size,0,none⟩)):=by
 refine⟨{ ver:=upd E.ver id (st.ver id+1),own:=upd E.own id ⟨.pointer none,E.w.heap.size,0⟩,S:=E.S,w:=E.w.alloc (.cells us t (0,0)) },rfl,?_,?_⟩
 · have hve:E.ver id=st.ver id:=by rw[hr.ver]
   have hle:E.Le { ver:=upd E.ver id (st.ver id+1),own:=upd E.own id ⟨.pointer none,E.w.heap.size,0⟩,S:=E.S,w:=E.w.alloc (.cells us t (0,0)) } :=
    ⟨fun _ h=>h,fun b hb=>znk _ _ b (hr.Slt b hb),fun j=>by by_cases h:j=id<;>simp[upd,h,hve],fun j hj=>by
     by_cases h:j=id
     · subst h;simp[upd,hve]at hj
     · simp[upd,h]⟩
   refine hr.own id (.box cs) ⟨.pointer none,E.w.heap.size,0⟩ (st.ver id+1) rfl (by omega) rfl (fun h=>by omega) rfl (hr.below.alloc hr.below.size _) (by simp) (fun b hb _=>znk _ _ b hb) ?_ ?_
   · exact⟨us,t,heap_alloc_new _ _,hr.below.size,fun h=>absurd (hr.Slt _ h) (by simp),hv.mono hle⟩
   · intro b hb;simp only[Blk.at,Option.some.injEq]at hb;subst hb;exact .inr (Nat.le_refl _)
 · exact .rptr _ _ _ _ _ (by simp[upd]) fun _=>by simp[upd]
theorem Rel.arrOwn (hr:Rel G st E a) {e sz:Nat} {xs:List AV} {us:Array Value} (hv:VRs E (xs.flatMap AV.cells) us.toList) (hlen:∀ x∈xs,x.cells.length=sz) (hn:xs.length≤maxLen) (id:Nat) :
 ∃ E',E'.w=E.w.alloc (.cells us e (0,0))∧Rel G { st with ver:=upd st.ver id (st.ver id+1),h:=upd st.h id (.arr e sz xs) } E' a ∧
  VR E' (.ref id (st.ver id+1)) (.slice (some ⟨E.w.heap.size,0,none⟩) xs.length xs.length):=by
 let o:Own:=⟨.slice (some ⟨E.w.heap.size,0,none⟩) xs.length xs.length,E.w.heap.size,sz⟩
 refine⟨{ ver:=upd E.ver id (st.ver id+1),own:=upd E.own id o,S:=E.S,w:=E.w.alloc (.cells us e (0,0)) },rfl,?_,?_⟩
 · have hve:E.ver id=st.ver id:=by rw[hr.ver]
   have hle:E.Le { ver:=upd E.ver id (st.ver id+1),own:=upd E.own id o,S:=E.S,w:=E.w.alloc (.cells us e (0,0)) } :=
    ⟨fun _ h=>h,fun b hb=>znk _ _ b (hr.Slt b hb),fun j=>by by_cases h:j=id<;>simp[upd,h,hve],fun j hj=>by
     by_cases h:j=id
     · subst h;simp[upd,hve]at hj
     · simp[upd,h]⟩
   have hul:us.size=xs.length * sz:=by have:=hv.1;rw[zlo xs hlen]at this;simpa using this.symm
   refine hr.own id (.arr e sz xs) o (st.ver id+1) rfl (by omega) rfl (fun h=>by omega) rfl (hr.below.alloc hr.below.size _) (by simp) (fun b hb _=>znk _ _ b hb) ?_ ?_
   · refine⟨rfl,us.toList,⟨by simpa using hul,.inr ⟨E.w.heap.size,xs.length,us,rfl,hr.below.size,heap_alloc_new _ _,Nat.le_refl _,hn,Nat.le_of_eq hul.symm,?_⟩⟩,hlen,hv.mono hle,?_⟩
     · rw[List.take_of_length_le (by simp[hul])]
     · intro b hb;simp only[o,Value.ownBlock,Option.some.injEq]at hb;subst hb;exact⟨rfl,fun h=>absurd (hr.Slt _ h) (by simp)⟩
   · intro b hb;simp only[Blk.at,o,Value.ownBlock,Option.some.injEq]at hb;subst hb;exact .inr (Nat.le_refl _)
 · exact .ref _ _ _ (by simp[upd]) fun _=>by simp[upd,o]
theorem Rel.nilOwn (hr:Rel G st E a) (e sz:Nat) (id d:Nat) (hd:st.σ d=.v (.slice none 0 0)) :
 ∃ E',E'.w=E.w∧Rel G { σ:=upd st.σ d (.ref id (st.ver id+1)),ver:=upd st.ver id (st.ver id+1),h:=upd st.h id (.arr e sz []) } E' a:=by
 let o:Own:=⟨.slice none 0 0,0,sz⟩
 refine⟨{ ver:=upd E.ver id (st.ver id+1),own:=upd E.own id o,S:=E.S,w:=E.w },rfl,?_⟩
 have hve:E.ver id=st.ver id:=by rw[hr.ver]
 have hr':Rel G { st with ver:=upd st.ver id (st.ver id+1),h:=upd st.h id (.arr e sz []) } { ver:=upd E.ver id (st.ver id+1),own:=upd E.own id o,S:=E.S,w:=E.w } a:=by
  refine hr.own id (.arr e sz []) o (st.ver id+1) rfl (by omega) rfl (fun h=>by omega) rfl hr.below (Nat.le_refl _) (fun b hb _=>rfl) ?_ ?_
  · exact⟨rfl,[],⟨by simp,.inl ⟨rfl,rfl⟩⟩,by simp,⟨rfl,by simp⟩,fun b hb=>by simp[o,Value.ownBlock]at hb⟩
  · intro b hb;simp[Blk.at,o,Value.ownBlock]at hb
 refine hr'.weaken fun x hx=>?_
 simp only[hd]at hx
 rw[hx.v_inv]
 exact .ref _ _ _ (by simp[upd]) fun _=>by simp[upd,o]
def yjt {α:Type} (cs:List α) (off:Nat) (new:List α):List α:=cs.take off++new++cs.drop (off+new.length)
theorem yjv {α:Type} (cs:List α) (off:Nat) (new:List α) (h:off+new.length≤cs.length):(yjt cs off new).length=cs.length:=by simp[yjt];omega
theorem yju {α:Type} (cs:List α) (off:Nat) (new:List α) (h:off+new.length≤cs.length) (k:Nat) :
 (yjt cs off new)[k]? = if off≤k∧k < off+new.length then new[k - off]? else cs[k]? := by
 unfold yjt
 have ht:(cs.take off).length=off:=by simp;omega
 by_cases h1:k < off
 · rw[if_neg (by omega),List.append_assoc,List.getElem?_append_left (by omega),List.getElem?_take,if_pos h1]
 · by_cases h2:k < off+new.length
   · rw[if_pos ⟨by omega,h2⟩,List.append_assoc,List.getElem?_append_right (by omega),ht,List.getElem?_append_left (by omega)]
   · rw[if_neg (by omega),List.getElem?_append_right (by simp;omega),List.getElem?_drop]
     congr 1
     simp;omega
theorem VRs.splice {cs new:List AV} {us vs:List Value} {off:Nat} (h1:VRs E cs us) (h2:VRs E new vs) (h:off+new.length≤cs.length):VRs E (yjt cs off new) (yjt us off vs):=by
 have hl:=h1.1
 have hn:=h2.1
 refine⟨by rw[yjv _ _ _ h,yjv _ _ _ (by omega)];exact hl,fun i c u hc hu=>?_⟩
 rw[yju _ _ _ h]at hc
 rw[yju _ _ _ (by omega)]at hu
 split at hc
 · rename_i hi;rw[if_pos (by omega)]at hu;exact h2.2 _ c u hc hu
 · rename_i hi;rw[if_neg (by omega)]at hu;exact h1.2 _ c u hc hu
theorem zj1 (off:Nat):∀ (l:List Value) (k:Nat) (cells:Array Value),off+k+l.length≤cells.size →
 ((l.zipIdx k).foldl (fun cs (x:Value×Nat)=>cs.setIfInBounds (off+x.2) x.1) cells).toList=yjt cells.toList (off+k) l
 | [],k,cells,h=>by simp[yjt]
 | v::l,k,cells,h=>by
  simp only[List.length_cons]at h
  rw[List.zipIdx_cons,List.foldl_cons,zj1 off l (k+1) _ (by simp;omega)]
  apply List.ext_getElem?
  intro i
  rw[yju _ _ _ (by simp;omega),yju _ _ _ (by simp;omega)]
  simp only[List.length_cons,Array.toList_setIfInBounds]
  by_cases h1:off+(k+1)≤i∧i < off+(k+1)+l.length
  · rw[if_pos h1,if_pos (by omega),show i - (off+k)=(i - (off+(k+1)))+1 from by omega,List.getElem?_cons_succ]
  · rw[if_neg h1]
    by_cases h2:i=off+k
    · subst h2
      rw[if_pos (by omega),Nat.sub_self,List.getElem?_cons_zero,List.getElem?_set_self (by simp;omega)]
    · rw[if_neg (by omega),List.getElem?_set_ne (by omega)]
def fillL (place:Nat→Option (Nat×Nat)) (cells:List AV):List (Nat×AV)→Option (List AV)
 | []=>some cells
 | (i,p)::rest =>
  match place i with
  | none=>none
  | some (off,size)=>if p.cells.length=size∧off+size≤cells.length then fillL place (yjt cells off p.cells) rest else none
theorem zjy {place:Nat→Option (Nat×Nat)}:∀ (parts:List (Nat×AV)) (vals:List (Nat×Value)) (cells:List AV) (us:Array Value) (out:List AV),VRs E cells us.toList →
 parts.length=vals.length→(∀ (i:Nat) p x,parts[i]? = some p→vals[i]? = some x→p.1=x.1∧VRs E p.2.cells x.2.cells.toList)→fillL place cells parts=some out →
 ∃ vs,Instr.fill place us vals=some vs∧VRs E out vs.toList
 | [],[],cells,us,out,h,_,_,ho=>by simp only[fillL,Option.some.injEq]at ho;subst ho;exact⟨us,rfl,h⟩
 | (i,p)::parts,(j,x)::vals,cells,us,out,h,hl,hp,ho=>by
  obtain⟨he,hpx⟩:=hp 0 _ _ rfl rfl
  simp only at he hpx
  subst he
  simp only[fillL]at ho
  simp only[Instr.fill]
  cases hpl:place i with
  | none=>simp[hpl]at ho
  | some os =>
   obtain⟨off,size⟩:=os
   simp only[hpl]at ho ⊢
   split at ho
   case isFalse=>cases ho
   rename_i hc
   have hxl:x.cells.size=size:=by have:=hpx.1;rw[hc.1]at this;simpa using this.symm
   have hul:us.size=cells.length:=by simpa using h.1.symm
   have hcond:(decide (x.cells.size≠size)||decide (off+x.cells.size > us.size))=false:=by
    simp[hxl,hul];omega
   have hfold:(x.cells.zipIdx.foldl (fun cs (y:Value×Nat)=>cs.setIfInBounds (off+y.2) y.1) us).toList=yjt us.toList off x.cells.toList:=by
    rw[← Array.foldl_toList,Array.toList_zipIdx]
    have:=zj1 off x.cells.toList 0 us (by simp[hxl,hul];omega)
    simpa using this
   have h':VRs E (yjt cells off p.cells) (x.cells.zipIdx.foldl (fun cs (y:Value×Nat)=>cs.setIfInBounds (off+y.2) y.1) us).toList:=by
    rw[hfold];exact h.splice hpx (by rw[hc.1];exact hc.2)
   obtain⟨vs,h1,h2⟩:=zjy parts vals _ _ out h' (by simpa using hl) (fun k p' x' hk hk'=>hp (k+1) p' x' (by simpa using hk) (by simpa using hk')) ho
   refine⟨vs,?_,h2⟩
   rw[if_neg (by simpa using hcond)]
   exact h1
 | [],_::_,_,_,_,_,hl,_,_=>by simp at hl
 | _::_,[],_,_,_,_,hl,_,_=>by simp at hl
end
end Go.Abs
namespace Go.Abs
open Go Go.RowKit
def yns (P:Program) (t:TypeId):Option (List (Nat×Nat)) :=
 match P.underlying t with
 | some (.struct fs)=>fs.toList.mapM fun f=>(P.info? f.type).map fun i=>(f.offset,i.size)
 | _=>none
def zi6 (st:St) (parts:Array (Nat×Operand)):List (Nat×AV):=parts.toList.map fun x=>(x.1,st.ev x.2)
def yps (z:Value):List AV:=z.cells.toList.map .v
def zfi (P:Program) (st:St) (t:TypeId) (parts:Array (Nat×Operand)):Option AV :=
 if (zi6 st parts).all fun x=>zth st x.2 then
  match tZero P t with
  | none=>none
  | some z=>match yns P t with
   | some pl=>(fillL (fun i=>pl[i]?) (yps z) (zi6 st parts)).map .agg
   | none=>match tArr P t with
    | some (_,m)=>(fillL (fun i=>some (i * m,m)) (yps z) (zi6 st parts)).map .agg
    | none=>none
 else none
section
variable {G:Ctx} {st:St} {E:Env} {a:Act}
theorem ypt (E:Env) (z:Value):VRs E (yps z) z.cells.toList:=by
 refine⟨by simp[yps],fun i c u hc hu=>?_⟩
 simp only[yps,List.getElem?_map,hu,Option.map_some,Option.some.injEq]at hc
 subst hc;exact .v u
theorem zi7 (hr:Rel G st E a) {parts:Array (Nat×Operand)} (h:((zi6 st parts).all fun x=>zth st x.2)=true) (i:Nat) (p:Nat×AV) (x:Nat×Value)
 (hp:(zi6 st parts)[i]? = some p) (hx:(parts.map fun (i,x)=>(i,a.eval x)).toList[i]? = some x):p.1=x.1∧VRs E p.2.cells x.2.cells.toList∧∀ u∈x.2.cells.toList,u.oneCell'=true:=by
 have hok:=List.all_eq_true.1 h p (List.mem_of_getElem? hp)
 simp only[zi6,List.getElem?_map,Option.map_eq_some_iff]at hp
 obtain⟨q,hq,rfl⟩:=hp
 simp only[Array.toList_map,List.getElem?_map,hq,Option.map_some,Option.some.injEq]at hx
 subst hx
 have:=ztj hr (hr.ev q.2) hok
 exact⟨rfl,this.1,this.2⟩
theorem zfj (hr:Rel G st E a) {t:TypeId} {parts:Array (Nat×Operand)} {r:AV} (h:zfi G.P st t parts=some r) :
 ∃ z,(Instr.build t (parts.map fun (i,x)=>(i,a.eval x))).run G.P E.w=.ok z E.w∧VR E r z:=by
 unfold zfi at h
 split at h
 case isFalse=>cases h
 rename_i hok
 split at h
 · cases h
 · rename_i z hz
   have hlen:(zi6 st parts).length=(parts.map fun (i,x)=>(i,a.eval x)).toList.length:=by simp[zi6]
   have hrel:∀ (i:Nat) p x,(zi6 st parts)[i]? = some p→(parts.map fun (i,x)=>(i,a.eval x)).toList[i]? = some x→p.1=x.1∧VRs E p.2.cells x.2.cells.toList:=fun i p x hp hx =>
    let h:=zi7 hr hok i p x hp hx;⟨h.1,h.2.1⟩
   have fin:∀ (place:Nat→Option (Nat×Nat)),(fillL place (yps z) (zi6 st parts)).map AV.agg=some r →
    (∀ us,Instr.fill place z.cells (parts.map fun (i,x)=>(i,a.eval x)).toList=some us→G.P.built t (parts.map fun (i,x)=>(i,a.eval x)).toList=some us) →
    ∃ z',(Instr.build t (parts.map fun (i,x)=>(i,a.eval x))).run G.P E.w=.ok z' E.w∧VR E r z':=by
    intro place hm hb
    obtain⟨out,ho,rfl⟩:=Option.map_eq_some_iff.1 hm
    obtain⟨vs,h1,h2⟩:=zjy (E:=E) _ _ _ z.cells _ (ypt E z) hlen hrel ho
    refine⟨.agg vs,run_build _ _ _ _ (hb _ h1),.agg _ _ (by simpa using h2.1) fun i c hc=>?_⟩
    have hi:i < vs.size:=by have:=h2.1;simp at this;rw[← this];exact (List.getElem?_eq_some_iff.1 hc).1
    exact h2.2 i c _ hc (by simp[Array.getD_eq_getD_getElem?,hi])
   unfold tZero at hz
   cases hit:G.P.info? t with
   | none=>simp[hit]at hz
   | some it =>
    have hz':it.zero=some z:=by simpa [hit] using hz
    split at h
    · rename_i pl hpl
      unfold yns at hpl
      split at hpl
      · rename_i fs hu
        refine fin _ h fun us hus=>?_
        unfold Program.built
        simp only[hit,hu,hz',hpl]
        have:(fun (i:Nat)=>pl.toArray[i]?)=fun (i:Nat)=>pl[i]? := by funext i;simp
        rw[this];exact hus
      · cases hpl
    · split at h
      · rename_i n m hm
        unfold tArr at hm
        split at hm
        · rename_i n' e hu
          obtain⟨m',hm',hmm⟩:=Option.map_eq_some_iff.1 hm
          simp only[Prod.mk.injEq]at hmm
          obtain⟨_,rfl⟩:=hmm
          unfold tSize at hm'
          cases hie:G.P.info? e with
          | none=>simp[hie]at hm'
          | some ie =>
           have hsz:ie.size=m':=by simpa [hie] using hm'
           refine fin _ h fun us hus=>?_
           unfold Program.built
           simp only[hit,hu,hz',hie,hsz]
           exact hus
        · cases hm
      · cases h
def litAV (P:Program) (st:St) (t:TypeId) (len:Nat) (parts:Array (Nat×Operand)):Option (Nat×Nat×List AV) :=
 match tElem P t with
 | none=>none
 | some e=>match tSize P e with
  | none=>none
  | some sz =>
   if (parts.toList.map (·.1))=List.range len∧((zi6 st parts).all fun x=>zth st x.2&&x.2.cells.length==sz)=true∧(len * sz≤16777216∧len≤16777216)∧(tZero P e).map (·.cells.size)=some sz then
    some (e,sz,(zi6 st parts).map (·.2))
   else none
theorem zj2 {sz:Nat}:∀ (vals:List (Nat×Value)) (n:Nat) (pre post:List Value),pre.length=n * sz→post.length=vals.length * sz→(vals.map (·.1))=List.range' n vals.length→(∀ v∈vals,v.2.cells.size=sz) →
 Instr.fill (fun i=>some (i * sz,sz)) (pre++post).toArray vals=some (pre++vals.flatMap fun v=>v.2.cells.toList).toArray
 | [],n,pre,post,h1,h2,_,_=>by
  have:post=[]:=List.eq_nil_of_length_eq_zero (by simpa using h2)
  simp[Instr.fill,this]
 | (i,v)::vals,n,pre,post,h1,h2,h3,h4=>by
  simp only[List.map_cons,List.length_cons,List.range'_succ,List.cons.injEq]at h3
  obtain⟨rfl,h3⟩:=h3
  have hv:=h4 (i,v) (by simp)
  simp only at hv
  simp only[List.length_cons,Nat.succ_mul]at h2
  have hcond:(decide (v.cells.size≠sz)||decide (i * sz+v.cells.size > (pre++post).toArray.size))=false:=by
   simp[hv,h1];omega
  have hfold:v.cells.zipIdx.foldl (fun cs (y:Value×Nat)=>cs.setIfInBounds (i * sz+y.2) y.1) (pre++post).toArray=((pre++v.cells.toList)++post.drop sz).toArray:=by
   rw[← Array.toList_inj,← Array.foldl_toList,Array.toList_zipIdx]
   have:=zj1 (i * sz) v.cells.toList 0 (pre++post).toArray (by simp[hv,h1];omega)
   rw[Nat.add_zero]at this
   rw[this]
   have e1:(pre++post).take (i * sz)=pre:=by rw[List.take_append_of_le_length (by omega),List.take_of_length_le (by omega)]
   have e2:(pre++post).drop (i * sz+v.cells.toList.length)=post.drop sz:=by
    rw[List.drop_append,List.drop_eq_nil_of_le (by omega),List.nil_append];congr 1;simp[hv];omega
   simp only[yjt,e1,e2]
  simp only[Instr.fill]
  rw[if_neg (by simpa using hcond),hfold,zj2 vals (i+1) (pre++v.cells.toList) (post.drop sz) (by simp[hv,h1,Nat.succ_mul]) (by simp;omega) h3 (fun w hw=>h4 w (by simp[hw]))]
  simp[List.append_assoc]
theorem run_lit (hr:Rel G st E a) {t:TypeId} {len:Nat} {parts:Array (Nat×Operand)} {e sz:Nat} {xs:List AV} (h:litAV G.P st t len parts=some (e,sz,xs)) :
 ∃ us:Array Value,(Instr.buildSlice t len (parts.map fun (i,x)=>(i,a.eval x))).run G.P E.w=.ok (.slice (some ⟨E.w.heap.size,0,none⟩) len len) (E.w.alloc (.cells us e (0,0))) ∧
  xs.length=len∧(∀ x∈xs,x.cells.length=sz)∧VRs E (xs.flatMap AV.cells) us.toList∧(∀ u∈us.toList,u.oneCell'=true)∧(∀ x∈xs,zth st x=true)∧us.size=len * sz:=by
 unfold litAV at h
 split at h
 · cases h
 rename_i e' he
 split at h
 · cases h
 rename_i sz' hsz
 split at h
 case isFalse=>cases h
 rename_i hc
 simp only[Option.some.injEq,Prod.mk.injEq]at h
 obtain⟨rfl,rfl,rfl⟩:=h
 obtain⟨hidx,hall,⟨hsmall,_⟩,hzero⟩:=hc
 have hplen:parts.size=len:=by have:=congrArg List.length hidx;simpa using this
 have hok:((zi6 st parts).all fun x=>zth st x.2)=true:=by
  rw[List.all_eq_true]at hall ⊢
  intro x hx;have:=hall x hx;simp only[Bool.and_eq_true]at this;exact this.1
 have hcl:∀ x∈(zi6 st parts).map (·.2),x.cells.length=sz':=by
  intro x hx
  obtain⟨y,hy,rfl⟩:=List.mem_map.1 hx
  have:=List.all_eq_true.1 hall y hy
  simp only[Bool.and_eq_true,beq_iff_eq]at this
  exact this.2
 let vals:=(parts.map fun (i,x)=>(i,a.eval x)).toList
 have hvl:vals.length=len:=by simp[vals,hplen]
 have hrel:∀ (i:Nat) (p:Nat×AV) (x:Nat×Value),(zi6 st parts)[i]? = some p→vals[i]? = some x→p.1=x.1∧VRs E p.2.cells x.2.cells.toList∧∀ u∈x.2.cells.toList,u.oneCell'=true:=fun i p x hp hx=>zi7 hr hok i p x hp hx
 have hel:(zi6 st parts).length=len:=by simp[zi6,hplen]
 have hvs:∀ v∈vals,v.2.cells.size=sz':=by
  intro v hv
  obtain⟨i,hi⟩:=List.mem_iff_getElem?.1 hv
  have hlt:i < (zi6 st parts).length:=by rw[hel,← hvl];exact (List.getElem?_eq_some_iff.1 hi).1
  have h1:=(hrel i _ v (List.getElem?_eq_getElem hlt) hi).2.1.1
  have h2:=hcl ((zi6 st parts)[i]).2 (List.mem_map.2 ⟨_,List.getElem_mem hlt,rfl⟩)
  rw[h2]at h1;simpa using h1.symm
 have hvidx:vals.map (·.1)=List.range' 0 vals.length:=by
  rw[hvl,← List.range_eq_range',← hidx]
  simp[vals,List.map_map,Function.comp_def]
 have hflat:VRs E ((zi6 st parts).flatMap fun x=>x.2.cells) (vals.flatMap fun v=>v.2.cells.toList):=by
  have gen:∀ (l:List (Nat×AV)) (m:List (Nat×Value)),l.length=m.length→(∀ (i:Nat) p x,l[i]? = some p→m[i]? = some x→VRs E p.2.cells x.2.cells.toList) →
   VRs E (l.flatMap fun x=>x.2.cells) (m.flatMap fun v=>v.2.cells.toList):=by
   intro l
   induction l with
   | nil=>intro m hl _;have:m=[]:=List.eq_nil_of_length_eq_zero hl.symm;subst this;exact⟨rfl,by simp⟩
   | cons p l ih =>
    intro m hl hp
    cases m with
    | nil=>simp at hl
    | cons x m =>
     have h0:=hp 0 p x rfl rfl
     have h1:=ih m (by simpa using hl) fun i p' x' h h'=>hp (i+1) p' x' (by simpa using h) (by simpa using h')
     refine⟨by simp only[List.flatMap_cons,List.length_append,h0.1,h1.1],fun i c u hc hu=>?_⟩
     simp only[List.flatMap_cons]at hc hu
     have hlen:=h0.1
     by_cases hi:i < p.2.cells.length
     · rw[List.getElem?_append_left hi]at hc
       rw[List.getElem?_append_left (by omega)]at hu
       exact h0.2 i c u hc hu
     · rw[List.getElem?_append_right (by omega)]at hc
       rw[List.getElem?_append_right (by omega),← hlen]at hu
       exact h1.2 _ c u hc hu
  exact gen _ _ (by rw[hel,hvl]) fun i p x h h'=>(hrel i p x h h').2.1
 have hxs:((zi6 st parts).map (·.2)).flatMap AV.cells=(zi6 st parts).flatMap fun x=>x.2.cells:=by simp[List.flatMap_map]
 obtain⟨z,hz,hzs⟩:=Option.map_eq_some_iff.1 hzero
 unfold tZero at hz
 cases hie:G.P.info? e' with
 | none=>simp[hie]at hz
 | some ie =>
  have hz':ie.zero=some z:=by simpa [hie] using hz
  have hies:ie.size=sz':=by have:=hsz;unfold tSize at this;simpa [hie] using this
  have hone:∀ u∈vals.flatMap (fun v=>v.2.cells.toList),u.oneCell'=true:=by
   intro u hu
   obtain⟨v,hv,hu⟩:=List.mem_flatMap.1 hu
   obtain⟨i,hi⟩:=List.mem_iff_getElem?.1 hv
   have hlt:i < (zi6 st parts).length:=by rw[hel,← hvl];exact (List.getElem?_eq_some_iff.1 hi).1
   exact (hrel i _ v (List.getElem?_eq_getElem hlt) hi).2.2 u hu
  have hsizeflat:(vals.flatMap fun v=>v.2.cells.toList).length=len * sz':=by
   rw[← hflat.1,← hxs,zlo _ hcl];simp[hel]
  refine⟨(vals.flatMap fun v=>v.2.cells.toList).toArray,?_,by simp[hel],hcl,by rw[hxs];exact hflat,hone,fun x hx=>?_,by simpa using hsizeflat⟩
  · by_cases hzl:len * ie.size=0
    · have hfill:=zj2 (sz:=ie.size) vals 0 [] [] (by simp) (by simp[hvl,hzl]) hvidx (by rw[hies];exact hvs)
      simp only[List.append_nil,List.nil_append]at hfill
      have hfill':Instr.fill (fun i=>some (i * ie.size,ie.size)) #[] vals=some (vals.flatMap fun v=>v.2.cells.toList).toArray:=hfill
      simp only[vals]at hfill'
      simp only[Instr.buildSlice,Sem.run_bind,run_underlying (ylr he),Result.andThen_ok,yhn hsz]
      rw[hies]at hzl
      have hn:¬ len * sz' > 2 ^ 24:=by omega
      rw[hies]at hfill'
      simp only[Array.toList_map]at hfill'
      simp[hzl,newRow,vals,Array.range_zero',hfill']
    · have hfill:=zj2 (sz:=ie.size) vals 0 [] ((Array.range (len * ie.size)).map (z.cells[· % z.cells.size]!)).toList (by simp) (by simp[hvl]) hvidx (by rw[hies];exact hvs)
      simp only[List.nil_append,Array.toArray_toList]at hfill
      exact run_buildSlice E.w t e' len _ _ ie z (ylr he) hie hz' (by rw[hies];omega) hzl hfill
  · obtain⟨y,hy,rfl⟩:=List.mem_map.1 hx
    exact List.all_eq_true.1 hok y hy
end
end Go.Abs
