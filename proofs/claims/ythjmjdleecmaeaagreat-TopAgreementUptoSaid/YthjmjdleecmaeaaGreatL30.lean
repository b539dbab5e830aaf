/- Several texts of the proof in one: Tu, H1, A1, A2, A3. No condition. -/
import Derived.Test.YthjmjdleecmaeaaGreatL29
import Derived.Test.YthjmjdleecmaeaaGreatRows
import Derived.Test.YthjmjdleecmaeaaGreatL25
set_option linter.unusedSimpArgs false
set_option linter.unusedVariables false
set_option maxHeartbeats 4000000
set_option maxRecDepth 8000
namespace Go.Proofs.YthjmjdleecmaeaaGreat.bulks
open Go Go.Abs Go.Proofs.Tryz
theorem one_le {H:Type} (d:DataW H):1≤Rows.uptoBulk d:=by
 cases d with
 | lit l=>cases l<;>simp[Rows.uptoBulk]
 | nil=>simp[Rows.uptoBulk]
 | ptr d=>simp[Rows.uptoBulk]
 | slice elems spare=>simp[Rows.uptoBulk]
 | agg parts=>simp[Rows.uptoBulk]
 | iface t d=>simp[Rows.uptoBulk]
 | map entries=>simp[Rows.uptoBulk]
 | held h=>simp[Rows.uptoBulk]
theorem slice_elems {H:Type} (elems spare:List (DataW H)):Rows.uptoBulkAll elems+1≤Rows.uptoBulk (.slice elems spare):=by
 simp only[Rows.uptoBulk]
 omega
theorem agg_parts {H:Type} (parts:List (DataW H)):Rows.uptoBulkAll parts+1=Rows.uptoBulk (.agg parts):=by
 simp only[Rows.uptoBulk]
theorem all_cons {H:Type} (d:DataW H) (l:List (DataW H)):Rows.uptoBulkAll (d::l)=Rows.uptoBulk d+Rows.uptoBulkAll l:=by
 simp only[Rows.uptoBulkAll]
end Go.Proofs.YthjmjdleecmaeaaGreat.bulks
namespace Go.Proofs.YthjmjdleecmaeaaGreat
open Go Go.Abs Go.RowKit Go.ChangeShapes Go.Proofs.Tryz
def OpensB (P:Program) (t:TypeId) {α:Type} (cells:α→List AV) (sz:α→Nat):Prop :=
 ∀ (H:Type) (enc:TypeId×Value→H) (w:World) (fuel:Nat) (cs:List Value) (d:DataW H) (ps:List MemPlace),
  DataW.trod enc P w 0 (fun _=>true) true fuel t cs=some (d,ps)→∃ x,sz x≤Rows.uptoBulk d∧VRs (env0 (zb8 w) w) (cells x) cs
theorem OpensB.map {P:Program} {t:TypeId} {α β:Type} {cells:α→List AV} {sz:α→Nat} {cells':β→List AV} {sz':β→Nat} (h:OpensB P t cells sz) (g:α→β) (hc:∀ x,cells' (g x)=cells x) (hs:∀ x,sz' (g x)≤sz x):OpensB P t cells' sz':=by
 intro H enc w fuel cs d ps ht
 obtain⟨x,h1,h2⟩:=h H enc w fuel cs d ps ht
 exact⟨g x,Nat.le_trans (hs x) h1,by rw[hc x];exact h2⟩
theorem yli {H:Type} {f:Nat→Nat}:∀ els:List (DataW H×List MemPlace),(∀ i,i < els.length→f i≤((els[i]?).map fun b=>Rows.uptoBulk b.1).getD 0)→((List.range els.length).map f).sum≤Rows.uptoBulkAll (els.map (·.1)):=by
 intro els
 induction els generalizing f with
 | nil=>intro _;simp
 | cons b els ih =>
  intro h
  have h0:=h 0 (by simp)
  have h1:=ih (f:=fun i=>f (i+1)) fun i hi=>by
   have:=h (i+1) (by simpa using hi)
   simpa using this
  rw[List.length_cons,List.range_succ_eq_map,List.map_cons,List.sum_cons,List.map_map,List.map_cons,bulks.all_cons]
  simp at h0
  have h2:(List.range els.length).map (f∘Nat.succ)=(List.range els.length).map fun i=>f (i+1):=rfl
  rw[h2]
  omega
section
variable {P:Program} {t:TypeId}
theorem zuq {k:IntKind} (hu:P.underlying t=some (.int k)):OpensB P t (fun n:Int=>[.v (.int k n)]) (fun _=>1):=by
 intro H enc w fuel cs d ps h
 obtain⟨x,_,h2⟩:=zux hu H enc w fuel cs d ps h
 exact⟨x,bulks.one_le d,h2⟩
theorem zup (hu:P.underlying t=some .bool):OpensB P t (fun n:Bool=>[.v (.bool n)]) (fun _=>1):=by
 intro H enc w fuel cs d ps h
 obtain⟨x,_,h2⟩:=zuw hu H enc w fuel cs d ps h
 exact⟨x,bulks.one_le d,h2⟩
theorem zus (hu:P.underlying t=some .string):OpensB P t (fun n:List UInt8=>[.v (.string ⟨n.toArray⟩)]) (fun n=>n.length+1):=by
 intro H enc w fuel cs d ps h
 cases fuel with
 | zero=>simp[DataW.trod]at h
 | succ fuel =>
  rcases cs with _|⟨c,_|⟨c2,cs⟩⟩
  · simp[DataW.trod,hu]at h
  · cases c<;>simp[DataW.trod,hu]at h
    rename_i s
    obtain⟨_,rfl,_⟩:=h
    exact⟨s.data.toList,by simp[Rows.uptoBulk],yqa (.v _)⟩
  · simp[DataW.trod,hu]at h
theorem zur {e:TypeId} {sz:Nat} (hu:P.underlying t=some (.slice e)) (hsz:P.cellsOf e=sz) (hpos:0 < sz) {α:Type} {cells:α→List AV} {sz':α→Nat} (he:OpensB P e cells sz') (el:α→AV) (hel:∀ x,(el x).cells=cells x) :
 OpensB P t (fun l:List α=>[.lst sz (l.map el)]) (fun l=>(l.map sz').sum):=by
 intro H enc w fuel cs d ps h
 cases fuel with
 | zero=>simp[DataW.trod]at h
 | succ fuel =>
  have hcase:(cs=[.slice none 0 0]∨∃ ad len cap,cs=[.slice (some ad) len cap]):=by
   rcases cs with _|⟨c,_|⟨c2,cs⟩⟩
   · simp[DataW.trod,hu]at h
   · cases c with
     | slice a len cap =>
      cases a with
      | none =>
       cases len<;>cases cap<;>first|exact .inl rfl|(simp[DataW.trod,hu]at h)
      | some ad=>exact .inr ⟨ad,len,cap,rfl⟩
     | _=>simp[DataW.trod,hu]at h
   · simp[DataW.trod,hu]at h
  rcases hcase with rfl|⟨ad,len,cap,rfl⟩
  · exact⟨[],by simp,yqa (.lstNil sz)⟩
  · unfold DataW.trod at h
    simp only[hu]at h
    split at h
    case isFalse=>cases h
    rename_i hc
    obtain⟨_,hlc,hcm⟩:=hc
    obtain⟨els,hels,hrest⟩:=Option.bind_eq_some_iff.1 h
    obtain⟨rest,_,hde⟩:=Option.map_eq_some_iff.1 hrest
    have hd:d=.slice (els.map (·.1)) (rest.map (·.1)):=(congrArg Prod.fst hde).symm
    obtain⟨h1,h2⟩:=zq3 _ _ hels
    have hl1:els.length=len:=by simpa using h1.symm
    -- each element
    have hx:∀ i,i < len→∃ (x:α) (us:List Value),sz' x≤((els[i]?).map fun b=>Rows.uptoBulk b.1).getD 0∧us.length=sz∧(∀ j u,us[j]? = some u→w.cell? ((ad.add (i * sz)).add j)=some u)∧VRs (env0 (zb8 w) w) (cells x) us:=by
     intro i hi
     obtain⟨b,hbi,hb⟩:=h2 i i (by simp[hi])
     obtain⟨us,hus,htr⟩:=Option.bind_eq_some_iff.1 hb
     unfold World.cells? at hus
     rw[if_pos (Nat.zero_le _)]at hus
     obtain⟨g1,g2⟩:=zq3 _ _ hus
     have hul:us.length=sz:=by rw[← hsz];simpa using g1.symm
     obtain⟨x,hx1,hx2⟩:=he H enc w fuel us b.1 b.2 htr
     refine⟨x,us,by rw[hbi];exact hx1,hul,fun j u hu'=>?_,hx2⟩
     have hj:j < sz:=by rw[← hul];exact (List.getElem?_eq_some_iff.1 hu').1
     obtain⟨y,hy,hcell⟩:=g2 j j (by simp[hsz,hj])
     rw[hu']at hy;cases hy
     rw[hsz]at hcell;exact hcell
    rcases Nat.eq_zero_or_pos len with h0|h0
    · subst h0
      exact⟨[],by simp,yqa (.lstNo sz cap ad hcm)⟩
    · let xf:Nat→α:=fun i=>if hi:i < len then (hx i hi).choose else (hx 0 h0).choose
      have hxf:∀ i,i < len→∃ us:List Value,sz' (xf i)≤((els[i]?).map fun b=>Rows.uptoBulk b.1).getD 0∧us.length=sz∧(∀ j u,us[j]? = some u→w.cell? ((ad.add (i * sz)).add j)=some u)∧VRs (env0 (zb8 w) w) (cells (xf i)) us:=by
       intro i hi;simp only[xf,hi,dif_pos];exact (hx i hi).choose_spec
      -- the address has no spot
      have hspot:ad.spot=none:=by
       obtain⟨us,_,hul,hcell,_⟩:=hxf 0 h0
       have:=hcell 0 _ (List.getElem?_eq_getElem (by omega))
       simp only[Nat.zero_mul]at this
       have e:(ad.add 0).add 0=ad:=by simp[Addr.add]
       rw[e]at this
       cases hs:ad.spot with
       | none=>rfl
       | some s =>
        exfalso
        unfold World.cell? at this
        split at this
        · simp[hs]at this
        · cases this
      obtain⟨blk,off,spot⟩:=ad
      simp only at hspot
      subst hspot
      have hlt:blk < w.heap.size:=by
       obtain⟨us,_,hul,hcell,_⟩:=hxf 0 h0
       have:=hcell 0 _ (List.getElem?_eq_getElem (by omega))
       rw[zbr,zbr]at this
       exact block_lt_of_cell this
      let u:Nat→Value:=fun k=>(w.cell? ⟨blk,off+k,none⟩).getD undef
      have hu:∀ i,i < len→∀ j,j < sz→w.cell? ⟨blk,off+(i * sz+j),none⟩=some (u (i * sz+j)):=by
       intro i hi j hj
       obtain⟨us,_,hul,hcell,_⟩:=hxf i hi
       have:=hcell j _ (List.getElem?_eq_getElem (by omega))
       rw[zbr,zbr,Nat.add_assoc]at this
       simp[u,this]
      refine⟨(List.range len).map xf,?_,yqa ?_⟩
      · rw[hd]
        have h5:((List.range len).map xf).map sz'=(List.range len).map fun i=>sz' (xf i):=by rw[List.map_map];rfl
        have h6:=yli (f:=fun i=>sz' (xf i)) els (fun i hi=>by
         obtain⟨us,hok,_⟩:=hxf i (by omega)
         exact hok)
        rw[hl1]at h6
        show (((List.range len).map xf).map sz').sum≤_
        rw[h5]
        have h7:=bulks.slice_elems (els.map (·.1)) (rest.map (·.1))
        omega
      · have hlen:(((List.range len).map xf).map el).length=len:=by simp
        have key:=VR.lst (E:=env0 (zb8 w) w) sz (((List.range len).map xf).map el) blk off cap u hlt (by rw[hlen];exact hlc) hcm
         (fun k hk=>by
          rw[hlen]at hk
          have hd:k / sz < len:=Nat.div_lt_of_lt_mul (by rw[Nat.mul_comm];exact hk)
          have hkk:k / sz * sz+k % sz=k:=by rw[Nat.mul_comm];exact Nat.div_add_mod k sz
          have:=hu (k / sz) hd (k % sz) (Nat.mod_lt _ hpos)
          rwa [hkk]at this)
         (fun i x hi=>by
          simp only[List.map_map,List.getElem?_map,Option.map_eq_some_iff]at hi
          obtain⟨j,hj,rfl⟩:=hi
          have hj':j < len:=by have:=List.mem_of_getElem? hj;simpa using this
          obtain⟨us,_,hul,_,hv⟩:=hxf j hj'
          simp only[Function.comp,hel];rw[hv.1];exact hul)
         (fun i x j c hi hj=>by
          simp only[List.map_map,List.getElem?_map,Option.map_eq_some_iff]at hi
          obtain⟨i',hi',rfl⟩:=hi
          have hii:i'=i∧i < len:=by
           by_cases hi2:i < len
           · rw[List.getElem?_range hi2]at hi';cases hi';exact⟨rfl,hi2⟩
           · rw[List.getElem?_eq_none (by simpa using hi2)]at hi';cases hi'
          obtain⟨rfl,hil⟩:=hii
          obtain⟨us,_,hul,hcell,hv⟩:=hxf i' hil
          simp only[Function.comp,hel]at hj
          have hjl:j < us.length:=by rw[← hv.1];exact (List.getElem?_eq_some_iff.1 hj).1
          have h3:=hcell j _ (List.getElem?_eq_getElem hjl)
          rw[zbr,zbr,Nat.add_assoc]at h3
          have h4:u (i' * sz+j)=us[j]:=by simp[u,h3]
          rw[h4]
          exact hv.2 j c _ hj (List.getElem?_eq_getElem hjl))
        rw[hlen]at key
        exact key
def zal (P:Program) (off:Nat) (fs:List Field) (size:Nat) {α:Type} (cells:α→List AV) (sz:α→Nat):Prop :=
 (∀ x,(cells x).length=size) ∧
 ∀ (H:Type) (enc:TypeId×Value→H) (w:World) (fuel:Nat) (cs:List Value) (xs:List (DataW H×List MemPlace)),off+size≤cs.length →
  (fs.mapM fun f=>DataW.trod enc P w 0 (fun _=>true) true fuel f.type ((cs.drop f.offset).take (P.cellsOf f.type)))=some xs→∃ x,sz x≤Rows.uptoBulkAll (xs.map (·.1))∧VRs (env0 (zb8 w) w) (cells x) ((cs.drop off).take size)
theorem zuv {off:Nat}:zal P off [] 0 (fun _:Unit=>[]) (fun _=>0) :=
 ⟨fun _=>rfl,fun _ _ _ _ _ _ _ _=>⟨(),Nat.zero_le _,by simp[VRs]⟩⟩
theorem zuu {off:Nat} {f:Field} {fs:List Field} {s1 s2:Nat} {α β:Type} {c1:α→List AV} {z1:α→Nat} {c2:β→List AV} {z2:β→Nat} (hoff:f.offset=off) (hs:P.cellsOf f.type=s1) (hl:∀ x,(c1 x).length=s1)
 (h1:OpensB P f.type c1 z1) (h2:zal P (off+s1) fs s2 c2 z2):zal P off (f::fs) (s1+s2) (fun x:α×β=>c1 x.1++c2 x.2) (fun x=>z1 x.1+z2 x.2):=by
 refine⟨fun x=>by rw[List.length_append,hl,h2.1],fun H enc w fuel cs xs hle hm=>?_⟩
 simp only[List.mapM_cons,Option.bind_eq_bind,Option.bind_eq_some_iff,Option.pure_def,Option.some.injEq]at hm
 obtain⟨y,hy,ys,hys,rfl⟩:=hm
 rw[hoff,hs]at hy
 obtain⟨a,ha,hva⟩:=h1 H enc w fuel _ y.1 y.2 hy
 obtain⟨b,hb,hvb⟩:=h2.2 H enc w fuel cs ys (by omega) hys
 refine⟨(a,b),?_,?_⟩
 · rw[List.map_cons,bulks.all_cons]
   show z1 a+z2 b≤_
   omega
 have e:(cs.drop off).take (s1+s2)=(cs.drop off).take s1++(cs.drop (off+s1)).take s2:=by
  rw[List.take_add,List.drop_drop]
 rw[e]
 exact yp9 hva hvb
theorem zut {fs:Array Field} {size:Nat} {α:Type} {cells:α→List AV} {sz:α→Nat} (hu:P.underlying t=some (.struct fs)) (hsz:P.cellsOf t=size) (h:zal P 0 fs.toList size cells sz):OpensB P t cells sz:=by
 intro H enc w fuel cs d ps ht
 cases fuel with
 | zero=>simp[DataW.trod]at ht
 | succ fuel =>
  unfold DataW.trod at ht
  simp only[hu]at ht
  have ht':(if cs.length=P.cellsOf t then (fs.toList.mapM fun f=>DataW.trod enc P w 0 (fun _=>true) true fuel f.type ((cs.drop f.offset).take (P.cellsOf f.type))).map fun xs=>(DataW.agg (xs.map (·.1)),xs.flatMap (·.2)) else none)=some (d,ps):=ht
  clear ht
  split at ht'
  case isFalse=>cases ht'
  rename_i hl
  have ht:=ht'
  obtain⟨xs,hxs,hde⟩:=Option.map_eq_some_iff.1 ht
  have hd:d=.agg (xs.map (·.1)):=(congrArg Prod.fst hde).symm
  rw[hsz]at hl
  obtain⟨x,hx,hv⟩:=h.2 H enc w fuel cs xs (by omega) hxs
  refine⟨x,?_,?_⟩
  · have:=bulks.agg_parts (xs.map (·.1))
    rw[hd]
    omega
  rw[List.drop_zero,List.take_of_length_le (by omega)]at hv
  exact hv
end
def zaj (P:Program) (t:TypeId) {α:Type} (enc:α→AV) (sz:α→Nat):Prop :=
 ∀ (H:Type) (en:TypeId×Value→H) (w:World) (r:Go.Reach) (base:Nat) (v:Value) (d:DataW H) (ps:List MemPlace),
  Value.okWide P w r base t v→DataW.Trod en P w 0 (fun _=>true) true t v d ps→∃ x,sz x≤Rows.uptoBulk d∧VR (env0 (zb8 w) w) (enc x) v
theorem zum {P:Program} {t:TypeId} {α:Type} {el:α→AV} {sz:α→Nat} (ht:tAgg P t=some false) (h:OpensB P t (fun x=>[el x]) sz):zaj P t el sz:=by
 intro H en w r base v d ps hv ⟨fuel,htr⟩
 have hone:v.cells=#[v]:=by
  cases v with
  | agg cs =>
   exfalso
   unfold tAgg at ht
   unfold Value.okWide at hv
   split at ht
   · cases ht
   · cases ht
   · rename_i d' h1 h2 hu
     cases d' with
     | struct fs=>exact h1 fs rfl
     | array n e=>exact h2 n e rfl
     | _=>simp[hu,Cell.okWide,Cell.ok]at hv
   · cases ht
  | _=>rfl
 rw[hone]at htr
 obtain⟨x,hx,hvs⟩:=h H en w fuel _ d ps htr
 exact⟨x,hx,hvs.2 0 _ v rfl rfl⟩
def zak (P:Program) (ts:List TypeId) {α:Type} (enc:α→List AV) (sz:α→Nat):Prop :=
 ∀ (H:Type) (en:TypeId×Value→H) (w:World) (r:Go.Reach) (base:Nat) (vs:List Value) (ds:List (DataW H)) (ps:List MemPlace),
  (∀ (j:Nat) t v,ts[j]? = some t→vs[j]? = some v→Value.okWide P w r base t v)→DataW.TrodAll en P w 0 (fun _=>true) true ts vs ds ps →
  ∃ x,sz x≤Rows.uptoBulkAll ds∧(enc x).length=vs.length∧∀ (i:Nat) p v,(enc x)[i]? = some p→vs[i]? = some v→VR (env0 (zb8 w) w) p v
theorem zuo {P:Program}:zak P [] (fun _:Unit=>[]) (fun _=>0):=by
 intro H en w r base vs ds ps _ h
 cases vs with
 | nil=>exact⟨(),Nat.zero_le _,rfl,by simp⟩
 | cons v vs=>cases ds<;>exact h.elim
theorem zun {P:Program} {t:TypeId} {ts:List TypeId} {α β:Type} {e1:α→AV} {z1:α→Nat} {e2:β→List AV} {z2:β→Nat} (h1:zaj P t e1 z1) (h2:zak P ts e2 z2) :
 zak P (t::ts) (fun x:α×β=>e1 x.1::e2 x.2) (fun x=>z1 x.1+z2 x.2):=by
 intro H en w r base vs ds ps hv h
 cases vs with
 | nil=>cases ds<;>exact h.elim
 | cons v vs =>
  cases ds with
  | nil=>exact h.elim
  | cons d ds =>
   obtain⟨p,q,hd,hrest,_⟩:=h
   obtain⟨x,hx,hvx⟩:=h1 H en w r base v d p (hv 0 t v rfl rfl) hd
   obtain⟨y,hy,hl,hvy⟩:=h2 H en w r base vs ds q (fun j t' v' h h'=>hv (j+1) t' v' (by simpa using h) (by simpa using h')) hrest
   refine⟨(x,y),?_,by simp[hl],fun i p v' hp hv'=>?_⟩
   · rw[bulks.all_cons]
     show z1 x+z2 y≤_
     omega
   cases i with
   | zero=>simp at hp hv';subst hp;subst hv';exact hvx
   | succ i=>exact hvy i p v' (by simpa using hp) (by simpa using hv')
theorem zp7 {P:Program} {f:FuncId} {fn:Func} {s:ChangeSpec} {bt:TypeId} {H:Type} {en:TypeId×Value→H} {α:Type} {enc:α→List AV} {sz:α→Nat} (hl:laidOutB P=true)
 (hts:∀ t∈fn.params.toList,P.readableRec t=true∧t < P.types.size) (hvars:s.vars=[]) (hres:fn.resultTypes=#[bt]) (hbt:P.underlying bt=some .bool)
 (hfn:∀ ds:List (DataW H),ds.length=fn.params.toList.length→s.fn H ds={ results:=[.lit (.bool true)],args:=ds })
 (ho:zak P fn.params.toList enc sz) (hac:∀ x,sz x≤1048576→AC P f (enc x) (.v (.bool true)))
 {W:World} {base:Nat} {args:Array Value} {ds gs:List (DataW H)} {before:List MemPlace} (hval:∀ (j:Nat) t v,fn.params[j]? = some t→args[j]? = some v→Value.okWide P W .any base t v)
 (hW:DataW.Whole en P fn.params.toList s.vars false W args.toList ds gs before) (hk:Rows.uptoSmall H (ds++gs)=true) :
 Calls P f args W fun e W'=>∃ v,e=.returned v∧s.post en P fn false true false false W args v W':=by
 have hW':=hW
 obtain⟨p,q,hA,hV,rfl,hfz,hnd⟩:=hW
 rw[hvars]at hV
 have hgs:gs=[]∧q=[]:=by
  cases gs with
  | nil=>exact⟨rfl,hV⟩
  | cons g gs=>exact hV.elim
 obtain⟨rfl,rfl⟩:=hgs
 rw[List.append_nil]at hk
 have hb0:Rows.uptoBulkAll ds≤1048576:=of_decide_eq_true hk
 obtain⟨x,hx,hlen,hv⟩:=ho H en W .any base args.toList ds p (fun j t v ht hv=>hval j t v (by simpa using ht) (by simpa using hv)) hA
 refine ((hac x (Nat.le_trans hx hb0)).run (zb8 W) W args (fun _ h=>h) (by simpa using hlen.symm) fun i p' hp=>?_).mono ?_
 · have hi:i < args.size:=by have:=(List.getElem?_eq_some_iff.1 hp).1;rw[hlen]at this;simpa using this
   exact hv i p' _ hp (by simp[Array.getD_eq_getD_getElem?,hi])
 · rintro e W' ⟨v,S',rfl,hb,_,_,_,hr⟩
   have hv':v=.bool true:=VR.v_inv (E:=env0 S' W') hr
   subst hv'
   have hl2:=(yo5 _ _ _ _ hA).2
   have hlt:∀ x∈p,x.block < W.heap.size:=fun x hx=>hW'.lt x (by simp[hx])
   refine⟨_,rfl,ds,[],p++[],[],p,[],hW',?_,?_,?_,hb.frame _,fun h=>by cases h⟩
   · rw[List.append_nil,hfn ds hl2.symm,hres]
     exact⟨[],[],⟨1,by simp[DataW.trod,hbt,Value.cells]⟩,rfl,rfl⟩
   · rw[List.append_nil,hfn ds hl2.symm]
     exact yo6 hl hb _ _ _ _ hts hA hlt
   · rw[List.append_nil,hfn ds hl2.symm,hvars];rfl
theorem opBI:OpensB prog 3 (fun n=>[I n]) (fun _=>1):=zuq (by kernel_rfl)
theorem opBB:OpensB prog 4 (fun n=>[B n]) (fun _=>1):=zup (by kernel_rfl)
theorem opBS:OpensB prog 9 (fun n=>[S n]) (fun n=>n.length+1):=zus (by kernel_rfl)
theorem ylh {α:Type} (l:List α):(l.map fun _=>1).sum=l.length:=by
 induction l with
 | nil=>rfl
 | cons a l ih=>rw[List.map_cons,List.sum_cons,ih,List.length_cons];omega
theorem zuh:OpensB prog 26 (fun l=>[ints l]) (fun l:List Int=>l.length):=(zur (by kernel_rfl) (by kernel_rfl) (by decide) opBI I (fun _=>rfl)).map id (fun _=>rfl) (fun l=>by rw[ylh];exact Nat.le_refl _)
theorem zul:OpensB prog 35 (fun l=>[strs l]) bkT:=(zur (by kernel_rfl) (by kernel_rfl) (by decide) opBS S (fun _=>rfl)).map id (fun _=>rfl) (fun l=>by
 unfold bkT
 have:(fun s:Bytes=>1+s.length)=fun s:Bytes=>s.length+1:=by funext s;omega
 rw[this]
 exact Nat.le_refl _)
theorem zuj:OpensB prog 34 (fun n=>[I n]) (fun _=>1):=zuq (by kernel_rfl)
theorem opBLevel:OpensB prog 127 lvc (fun u=>1+u.user.length):=by
 have h:=zut underlying127 (by kernel_rfl) (zuu rfl (by kernel_rfl) (by intros;rfl) opBS (zuu rfl (by kernel_rfl) (by intros;rfl) opBI zuv))
 exact h.map (fun x=>⟨x.1,x.2.1⟩) (fun _=>rfl) (fun x=>by show 1+x.1.length≤x.1.length+1+(1+0);omega)
theorem zui:OpensB prog 158 klc (fun _=>1):=by
 have h:=zut underlying158 (by kernel_rfl) (zuu rfl (by kernel_rfl) (by intros;rfl) zuj (zuu rfl (by kernel_rfl) (by intros;rfl) opBI zuv))
 exact h.map (fun x=>⟨x.1,x.2.1⟩) (fun _=>rfl) (fun x=>by show 1≤1+(1+0);omega)
theorem opBUsers:OpensB prog 36 (fun l:List Level=>[.lst 2 (l.map fun u=>.agg (lvc u))]) bkU:=(zur (by kernel_rfl) (by kernel_rfl) (by decide) opBLevel (fun u:Level=>.agg (lvc u)) (fun _=>rfl)).map id (fun _=>rfl) (fun _=>Nat.le_refl _)
theorem opBKinds:OpensB prog 37 (fun l:List KindLevel=>[.lst 2 (l.map fun u=>.agg (klc u))]) (fun l=>l.length):=(zur (by kernel_rfl) (by kernel_rfl) (by decide) zui (fun u:KindLevel=>.agg (klc u)) (fun _=>rfl)).map id (fun _=>rfl) (fun l=>by rw[ylh];exact Nat.le_refl _)
theorem zuk:OpensB prog 39 lvsc (fun v=>bkU v.users+v.kinds.length):=by
 have h:=zut underlying39 (by kernel_rfl) (zuu rfl (by kernel_rfl) (by intros;rfl) opBUsers (zuu rfl (by kernel_rfl) (by intros;rfl) opBKinds (zuu rfl (by kernel_rfl) (by intros;rfl) opBI (zuu rfl (by kernel_rfl) (by intros;rfl) opBI (zuu rfl (by kernel_rfl) (by intros;rfl) opBI (zuu rfl (by kernel_rfl) (by intros;rfl) opBI (zuu rfl (by kernel_rfl) (by intros;rfl) opBI (zuu rfl (by kernel_rfl) (by intros;rfl) opBI (zuu rfl (by kernel_rfl) (by intros;rfl) opBI zuv)))))))))
 exact h.map (fun x=>⟨x.1,x.2.1,x.2.2.1,x.2.2.2.1,x.2.2.2.2.1,x.2.2.2.2.2.1,x.2.2.2.2.2.2.1,x.2.2.2.2.2.2.2.1,x.2.2.2.2.2.2.2.2.1⟩) (fun _=>rfl) (fun x=>by show bkU x.1+x.2.1.length≤bkU x.1+(x.2.1.length+_);omega)
theorem zug:OpensB prog 41 ctc bkC:=by
 have h:=zut underlying41 (by kernel_rfl) (zuu rfl (by kernel_rfl) (by intros;rfl) opBS (zuu rfl (by kernel_rfl) (by intros;rfl) opBI (zuu rfl (by kernel_rfl) (by intros;rfl) opBI (zuu rfl (by kernel_rfl) (by intros;rfl) opBB (zuu rfl (by kernel_rfl) (by intros;rfl) opBS (zuu rfl (by kernel_rfl) (by intros;rfl) zul (zuu rfl (by kernel_rfl) (by intros;rfl) zul (zuu (s1:=9) rfl (by kernel_rfl) (by intros;rfl) zuk zuv))))))))
 exact h.map (fun x=>⟨x.1,x.2.1,x.2.2.1,x.2.2.2.1,x.2.2.2.2.1,x.2.2.2.2.2.1,x.2.2.2.2.2.2.1,x.2.2.2.2.2.2.2.1⟩) (fun _=>rfl) (fun x=>by
  show x.1.length+x.2.2.2.2.1.length+bkT x.2.2.2.2.2.1+bkT x.2.2.2.2.2.2.1+bkU x.2.2.2.2.2.2.2.1.users+x.2.2.2.2.2.2.2.1.kinds.length≤x.1.length+1+(1+(1+(1+(x.2.2.2.2.1.length+1+(bkT x.2.2.2.2.2.1+(bkT x.2.2.2.2.2.2.1+(bkU x.2.2.2.2.2.2.2.1.users+x.2.2.2.2.2.2.2.1.kinds.length+0)))))))
  omega)
theorem opBSig:OpensB prog 43 (fun x:Sig=>[S x.server,I x.sum]) (fun x=>x.server.length):=by
 have h:=zut underlying43 (by kernel_rfl) (zuu rfl (by kernel_rfl) (by intros;rfl) opBS (zuu rfl (by kernel_rfl) (by intros;rfl) opBI zuv))
 exact h.map (fun x=>⟨x.1,x.2.1⟩) (fun _=>rfl) (fun x=>by show x.1.length≤x.1.length+1+(1+0);omega)
theorem opBEvt:OpensB prog 45 evc (fun e=>bkE e+1):=by
 have h:=zut underlying45 (by kernel_rfl) (zuu rfl (by kernel_rfl) (by intros;rfl) opBI (zuu rfl (by kernel_rfl) (by intros;rfl) opBS (zuu rfl (by kernel_rfl) (by intros;rfl) opBS (zuu rfl (by kernel_rfl) (by intros;rfl) zuj (zuu rfl (by kernel_rfl) (by intros;rfl) opBB (zuu rfl (by kernel_rfl) (by intros;rfl) opBS (zuu rfl (by kernel_rfl) (by intros;rfl) opBI (zuu rfl (by kernel_rfl) (by intros;rfl) opBI (zuu rfl (by kernel_rfl) (by intros;rfl) zuh (zuu rfl (by kernel_rfl) (by intros;rfl) zuh (zuu (s1:=16) rfl (by kernel_rfl) (by intros;rfl) zug (zuu rfl (by kernel_rfl) (by intros;rfl) opBI (zuu (s1:=2) rfl (by kernel_rfl) (by intros;rfl) opBSig zuv)))))))))))))
 exact h.map (fun x=>⟨x.1,x.2.1,x.2.2.1,x.2.2.2.1,x.2.2.2.2.1,x.2.2.2.2.2.1,x.2.2.2.2.2.2.1,x.2.2.2.2.2.2.2.1,x.2.2.2.2.2.2.2.2.1,x.2.2.2.2.2.2.2.2.2.1,x.2.2.2.2.2.2.2.2.2.2.1,x.2.2.2.2.2.2.2.2.2.2.2.1,x.2.2.2.2.2.2.2.2.2.2.2.2.1⟩) (fun _=>rfl) (fun x=>by
  show x.2.1.length+x.2.2.1.length+x.2.2.2.2.2.1.length+x.2.2.2.2.2.2.2.2.1.length+x.2.2.2.2.2.2.2.2.2.1.length+bkC x.2.2.2.2.2.2.2.2.2.2.1+x.2.2.2.2.2.2.2.2.2.2.2.2.1.server.length+1≤1+(x.2.1.length+1+(x.2.2.1.length+1+(1+(1+(x.2.2.2.2.2.1.length+1+(1+(1+(x.2.2.2.2.2.2.2.2.1.length+(x.2.2.2.2.2.2.2.2.2.1.length+(bkC x.2.2.2.2.2.2.2.2.2.2.1+(1+(x.2.2.2.2.2.2.2.2.2.2.2.2.1.server.length+0))))))))))))
  omega)
theorem ysd:OpensB prog 22 (fun l=>[evs l]) (fun l=>(l.map fun e=>bkE e+1).sum):=(zur (by kernel_rfl) (by kernel_rfl) (by decide) opBEvt ev (fun _=>rfl)).map id (fun _=>rfl) (fun _=>Nat.le_refl _)
theorem yje:∀ {l:List Evt},(l.map fun e=>bkE e+1).sum≤1048576→l.length≤1048576∧(∀ e∈l,SmE e)∧∀ e∈l,Mod e:=by
 intro l h
 have h1:∀ l:List Evt,l.length≤(l.map fun e=>bkE e+1).sum∧∀ e∈l,bkE e+1≤(l.map fun e=>bkE e+1).sum:=by
  intro l
  induction l with
  | nil=>exact⟨Nat.le_refl _,fun e he=>by cases he⟩
  | cons a l ih =>
   rw[List.map_cons,List.sum_cons,List.length_cons]
   refine⟨by have:=ih.1;omega,fun e he=>?_⟩
   rcases List.mem_cons.1 he with rfl|he
   · omega
   · have:=ih.2 e he;omega
 have h2:∀ l:List Level,l.length≤bkU l:=by
  intro l
  unfold bkU
  induction l with
  | nil=>exact Nat.le_refl _
  | cons a l ih=>rw[List.map_cons,List.sum_cons,List.length_cons];omega
 refine⟨Nat.le_trans (h1 l).1 h,fun e he=>?_,fun e he=>?_⟩
 · have:=(h1 l).2 e he
   unfold SmE
   omega
 · have h3:=(h1 l).2 e he
   have h4:=h2 e.content.levels.users
   have h5:=Nat.le_trans h3 h
   unfold bkE bkC at h5
   exact⟨by omega,by omega⟩
end Go.Proofs.YthjmjdleecmaeaaGreat
namespace Go.Proofs.YthjmjdleecmaeaaGreat
open Go Go.Abs Go.Proofs.Tryz
def powOf (e:Evt):Bool:=e.kind==3||(e.kind==4||(e.kind==2&&((e.content.n==0||e.content.n==4)&&!(e.key==e.sender))))
theorem is18_ac (e:Evt):AC prog 212 [ev e] (B (powOf e)):=by
 refine AC.ob func212 ntmps212 results212 (zzi (zyh _)) (zx0 _) fun w S'=>AWp.of_vc [] ?_
 by_cases k3:e.kind=3
 · have hb:powOf e=true:=by simp[powOf,k3]
   simp[go_sem,k3]
   refine PostR.ret ?_
   simp[go_sem,hb]
 · by_cases k4:e.kind=4
   · have hb:powOf e=true:=by simp[powOf,k4]
     simp[go_sem,k3,k4]
     refine PostR.ret ?_
     simp[go_sem,hb]
   · by_cases k2:e.kind=2
     · cases hk:(e.key==e.sender) with
       | true =>
        have hb:powOf e=false:=by simp[powOf,k2,hk]
        by_cases n0:e.content.n=0
        · simp[go_sem,k2,n0,hk]
          refine PostR.ret ?_
          simp[go_sem,hb]
        · by_cases n4:e.content.n=4
          · simp[go_sem,k2,n0,n4,hk]
            refine PostR.ret ?_
            simp[go_sem,hb]
          · simp[go_sem,k2,n0,n4,hk]
            refine PostR.ret ?_
            simp[go_sem,hb]
       | false =>
        by_cases n0:e.content.n=0
        · have hb:powOf e=true:=by simp[powOf,k2,hk,n0]
          simp[go_sem,k2,n0,hk]
          refine PostR.ret ?_
          simp[go_sem,hb]
        · by_cases n4:e.content.n=4
          · have hb:powOf e=true:=by simp[powOf,k2,hk,n4]
            simp[go_sem,k2,n0,n4,hk]
            refine PostR.ret ?_
            simp[go_sem,hb]
          · have hb:powOf e=false:=by simp[powOf,k2,n0,n4]
            simp[go_sem,k2,n0,n4,hk]
            refine PostR.ret ?_
            simp[go_sem,hb]
     · have hb:powOf e=false:=by simp[powOf,k2,k3,k4]
       simp[go_sem,k2,k3,k4]
       refine PostR.ret ?_
       simp[go_sem,hb]
def defLv (c:Bytes):Levels:=⟨if c=[] then [] else [⟨c,100⟩],[],0,0,0,0,50,50,50⟩
def crOf (l:List Evt):Bytes:=match l.find? (fun e=>e.kind==1) with
 | some e=>e.sender
 | none=>[]
def lvOf (l:List Evt):Levels:=match l.find? (fun e=>e.kind==3) with
 | some e=>e.content.levels
 | none=>defLv (crOf l)
def ypo (v:Levels) (u:Bytes):Int:=match v.users.find? (fun x=>x.user==u) with
 | some x=>x.n
 | none=>v.user
theorem zy1 (v:Levels):Pure (.agg (lvsc v)):=zx3 fun c hc=>by
 simp only[lvsc,List.mem_cons,List.not_mem_nil,or_false]at hc
 rcases hc with rfl|rfl|rfl|rfl|rfl|rfl|rfl|rfl|rfl<;>first|exact zzh _|exact zyx zyy|exact zyx zyt
theorem zxh (v:Levels):PureR (.agg (lvsc v)):=zy1 v
theorem zxg (v:Levels) (c:Bytes):PureR (.tup [.agg (lvsc v),S c]):=by
 intro r hr
 simp only[List.mem_cons,List.not_mem_nil,or_false]at hr
 rcases hr with rfl|rfl
 · exact zy1 v
 · exact zx2 c
theorem evc_lv (x:Evt):((evc x).drop 17).take 9=lvsc x.content.levels:=rfl
theorem wk_def (c:Bytes) (hc:c=[]):Wk (.agg [.v (.slice none 0 0),.v (.slice none 0 0),I 0,I 0,I 0,I 0,I 50,I 50,I 50]) (.agg (lvsc (defLv c))):=by
 subst hc
 exact .agg (⟨.nil _,.nil _,.refl _,.refl _,.refl _,.refl _,.refl _,.refl _,.refl _,trivial⟩)
theorem wk_def2 (c:Bytes) (hc:c≠[]):Wk (.agg [.lst 2 [.agg [S c,I 100]],.v (.slice none 0 0),I 0,I 0,I 0,I 0,I 50,I 50,I 50]) (.agg (lvsc (defLv c))):=by
 have:(defLv c).users=[⟨c,100⟩]:=by unfold defLv;rw[if_neg hc]
 unfold lvsc
 rw[this]
 exact .agg (⟨.refl _,.nil _,.refl _,.refl _,.refl _,.refl _,.refl _,.refl _,.refl _,trivial⟩)
theorem zh3 (c:Bytes):AC prog 38 [S c] (.agg (lvsc (defLv c))):=by
 refine AC.ob func38 ntmps38 results38 (zzi (zx2 _)) (zxh _) fun w S'=>AWp.of_vc [] ?_
 by_cases g:c=[]
 · have wk:=wk_def c g
   generalize defLv c=v at wk ⊢
   subst g
   simp[go_sem]
   refine PostR.retW [] ?_ (.one (.one wk))
   simp[go_sem]
 · have wk:=wk_def2 c g
   generalize defLv c=v at wk ⊢
   have g':c.isEmpty=false:=by simpa using g
   simp[go_sem,g,g']
   refine PostR.retW [] ?_ (.one (.one wk))
   simp[go_sem]
theorem zkz (e:Evt) (k:Int):AC prog 244 [ev e,.eptr [I k] 0] (B (e.kind==k)):=by
 refine AC.ob func244 ntmps244 results244 (zzj (zyh _) (zyf fun c h=>by simp only[List.mem_singleton]at h;subst h;exact zx1 _)) (zx0 _) fun w S'=>AWp.of_vc [] ?_
 simp[go_sem]
 exact rets
theorem zla (l:List Evt) (k:Int):AC prog 203 [evs l,I k] (I (idxI (fun e=>e.kind==k) l)):=by
 refine AC.ob func203 ntmps203 results203 (zzj (zyk _) (zx1 _)) (zx1 _) fun w S'=>AWp.of_vc [] ?_
 simp[go_sem]
 refine cpu (zof _ [.eptr [I k] 0] (fun e=>e.kind==k) (fun e=>zkz e k) (fun c h=>by simp only[List.mem_singleton]at h;subst h;exact zyf fun c h=>by simp only[List.mem_singleton]at h;subst h;exact zx1 _) l) ?_
 simp[go_sem]
 exact rets
theorem zgn (l:List Level) (hsz:l.length≤1000000000):AC prog 204 [.lst 2 (l.map fun u=>.agg (lvc u))] (.lst 2 (l.map fun u=>.agg (lvc u))):=by
 refine AC.ob func204 ntmps204 results204 (zzi (zyx zyy)) (zyx zyy) fun w S'=>AWp.of_vc [5] ?_
 have hok:∀ st,okAll st (l.map fun u=>.agg [.v (.string ⟨u.user.toArray⟩),.v (.int .i64 u.n)]):=fun st c hc=>by obtain⟨n,_,rfl⟩:=List.mem_map.1 hc;rfl
 simp[go_sem,hok]
 refine⟨?_,?_⟩
 · refine⟨⟨by omega,by omega⟩,?_⟩
   refine PostR.retW [5] ?_ (.refl _)
   simp[go_sem]
 · rintro rfl
   refine PostR.retW [] (r0:=.v (.slice none 0 0)) ?_ (.nil _)
   simp[go_sem]
theorem zgm (l:List KindLevel) (hsz:l.length≤1000000000):AC prog 205 [.lst 2 (l.map fun u=>.agg (klc u))] (.lst 2 (l.map fun u=>.agg (klc u))):=by
 refine AC.ob func205 ntmps205 results205 (zzi (zyx zyt)) (zyx zyt) fun w S'=>AWp.of_vc [5] ?_
 have hok:∀ st,okAll st (l.map fun u=>.agg [.v (.int .i64 u.kind),.v (.int .i64 u.n)]):=fun st c hc=>by obtain⟨n,_,rfl⟩:=List.mem_map.1 hc;rfl
 simp[go_sem,hok]
 refine⟨?_,?_⟩
 · refine⟨⟨by omega,by omega⟩,?_⟩
   refine PostR.retW [5] ?_ (.refl _)
   simp[go_sem]
 · rintro rfl
   refine PostR.retW [] (r0:=.v (.slice none 0 0)) ?_ (.nil _)
   simp[go_sem]
def memOf (n:Int):Bool:=n==3||n==1||n==2
def zpj (e:Evt):List EntD :=
 if e.kind=1 then [] else
 if e.kind=2 then
  (if memOf e.content.n=true then setOf (setOf (setOf (setOf (setOf [] 1 [] 0) 3 [] 0) 2 e.sender 0) 2 e.key 0) 4 [] 0 else setOf (setOf (setOf (setOf [] 1 [] 0) 3 [] 0) 2 e.sender 0) 2 e.key 0)
 else setOf (setOf (setOf [] 1 [] 0) 3 [] 0) 2 e.sender 0
theorem yil (s:List EntD) (k:Int) (key:Bytes) (id:Int):(setOf s k key id).length≤s.length+1:=by
 unfold setOf
 have:=zjr s ⟨k,key,0⟩
 rw[List.length_append,List.length_cons,List.length_drop,List.length_take]
 split<;>omega
theorem zpk (e:Evt):(zpj e).length≤5:=by
 have h1:=yil [] 1 [] 0
 have h2:=yil (setOf [] 1 [] 0) 3 [] 0
 have h3:=yil (setOf (setOf [] 1 [] 0) 3 [] 0) 2 e.sender 0
 have h4:=yil (setOf (setOf (setOf [] 1 [] 0) 3 [] 0) 2 e.sender 0) 2 e.key 0
 have h5:=yil (setOf (setOf (setOf (setOf [] 1 [] 0) 3 [] 0) 2 e.sender 0) 2 e.key 0) 4 [] 0
 simp only[List.length_nil]at h1
 unfold zpj
 split
 · simp
 · split
   · split<;>omega
   · omega
theorem len0:([]:List EntD).length≤100000:=by simp
theorem zpm (e:Evt):AC prog 218 [ev e] (ents (zpj e)):=by
 refine AC.ob func218 ntmps218 results218 (zzi (zyh _)) (zw3 _) fun w S'=>AWp.of_vc [] ?_
 have h1:=yil [] 1 [] 0
 have h2:=yil (setOf [] 1 [] 0) 3 [] 0
 have h3:=yil (setOf (setOf [] 1 [] 0) 3 [] 0) 2 e.sender 0
 have h4:=yil (setOf (setOf (setOf [] 1 [] 0) 3 [] 0) 2 e.sender 0) 2 e.key 0
 simp only[List.length_nil]at h1
 by_cases hc:e.kind=1
 · simp[go_sem,hc]
   refine PostR.retW [] (r0:=.v (.slice none 0 0)) (by simp[go_sem]) ?_
   simp[zpj,hc]
   exact .nil _
 simp[go_sem,hc]
 refine CallSem.by (yin [] 1 [] 0 len0) ⟨.nil _,.refl _,.refl _,.refl _,trivial⟩ (by simp[go_sem]) ?_
 simp[go_sem]
 refine cpu (yin (setOf [] 1 [] 0) 3 [] 0 (by omega)) ?_
 simp[go_sem]
 refine cpu (yin (setOf (setOf [] 1 [] 0) 3 [] 0) 2 e.sender 0 (by omega)) ?_
 by_cases hm:e.kind=2
 · simp[go_sem,hm]
   refine cpu (yin (setOf (setOf (setOf [] 1 [] 0) 3 [] 0) 2 e.sender 0) 2 e.key 0 (by omega)) ?_
   by_cases n3:e.content.n=3
   · simp[go_sem,n3]
     refine cpu (yin (setOf (setOf (setOf (setOf [] 1 [] 0) 3 [] 0) 2 e.sender 0) 2 e.key 0) 4 [] 0 (by omega)) ?_
     simp[go_sem]
     refine PostR.ret ?_
     simp[go_sem,zpj,hm,memOf,n3]
   by_cases n1:e.content.n=1
   · simp[go_sem,n1]
     refine cpu (yin (setOf (setOf (setOf (setOf [] 1 [] 0) 3 [] 0) 2 e.sender 0) 2 e.key 0) 4 [] 0 (by omega)) ?_
     simp[go_sem]
     refine PostR.ret ?_
     simp[go_sem,zpj,hm,memOf,n1]
   by_cases n2:e.content.n=2
   · simp[go_sem,n2]
     refine cpu (yin (setOf (setOf (setOf (setOf [] 1 [] 0) 3 [] 0) 2 e.sender 0) 2 e.key 0) 4 [] 0 (by omega)) ?_
     simp[go_sem]
     refine PostR.ret ?_
     simp[go_sem,zpj,hm,memOf,n2]
   simp[go_sem,n1,n2,n3]
   refine PostR.ret ?_
   simp[go_sem,zpj,hm,memOf,n1,n2,n3]
 · simp[go_sem,hm]
   refine PostR.ret ?_
   simp[go_sem,zpj,hc,hm]
end Go.Proofs.YthjmjdleecmaeaaGreat
namespace Go.Proofs.YthjmjdleecmaeaaGreat
open Go Go.Abs
end Go.Proofs.YthjmjdleecmaeaaGreat
namespace Go.Proofs.YthjmjdleecmaeaaGreat
open Go Go.Abs Go.Proofs.Tryz
def kenc (k:EntD):List AV:=[I k.kind,S k.key]
def kp (k:EntD):AV:=.agg (kenc k)
def kps (l:List EntD):AV:=.lst 2 (l.map kp)
theorem zys (d:EntD):∀ c∈kenc d,Pure c:=fun c hc=>by
 simp only[kenc,List.mem_cons,List.not_mem_nil,or_false]at hc
 rcases hc with rfl|rfl<;>exact zzh _
theorem zyu (d:EntD):Pure (kp d):=zx3 (zys d)
theorem zyv (l:List EntD):Pure (kps l):=zyw fun x hx c hc=>by
 obtain⟨d,_,rfl⟩:=List.mem_map.1 hx
 exact zys d c hc
theorem ztb (st:St) (l:List EntD):okAll st (l.map kp):=fun c hc=>by obtain⟨n,_,rfl⟩:=List.mem_map.1 hc;rfl
theorem kps_len (l:List EntD):(l.map kp).length=l.length:=by simp
attribute [go_sem] ztb kenc kp kps
theorem zxf (l:List EntD):PureR (kps l):=zyv l
theorem at_ac (k x:EntD):AC prog 178 [kp k,ent x] (B (isKey k.kind k.key x)):=by
 refine AC.ob func178 ntmps178 results178 (zzj (zyu _) (zyd _)) (zx0 _) fun w S'=>AWp.of_vc [] ?_
 by_cases h1:x.kind=k.kind
 · simp[go_sem,h1]
   refine PostR.ret ?_
   simp[go_sem,isKey,h1]
 · simp[go_sem,h1]
   refine PostR.ret ?_
   simp[go_sem,isKey,h1]
theorem in_ac (k:EntD) (e:Evt):AC prog 152 [kp k,ev e] (B (e.kind==k.kind&&e.key==k.key)):=by
 refine AC.ob func152 ntmps152 results152 (zzj (zyu _) (zyh _)) (zx0 _) fun w S'=>AWp.of_vc [] ?_
 by_cases h1:e.kind=k.kind
 · simp[go_sem,h1]
   refine PostR.ret ?_
   simp[go_sem,h1]
 · simp[go_sem,h1]
   refine PostR.ret ?_
   simp[go_sem,h1]
theorem zpl (e:Evt):AC prog 150 [ev e] (kps (zpj e)):=by
 refine AC.ob func150 ntmps150 results150 (zzi (zyh _)) (zxf _) fun w S'=>AWp.of_vc [] ?_
 have hle:=zpk e
 have hm:(zpj e).length≤maxLen:=by unfold maxLen;omega
 generalize hL:zpj e=L at hle hm ⊢
 simp[go_sem]
 refine cpu (zpm e) ?_
 rw[hL]
 simp[go_sem]
 refine AWp.ownNil 3 209 2 (by simp[go_sem]) ?_
 refine AWp.loop_vc [] (fun m s=>∃ q v:Nat,q≤L.length∧m=L.length - q∧s.σ 7=ents L∧s.σ 8=I L.length∧s.σ 9=I q∧s.σ 3=.ref 3 v∧s.ver 3=v∧s.h 3=.arr 209 2 ((L.take q).map kp)) L.length ⟨0,1,by simp[go_sem]⟩ ?_
 rintro m s ⟨q,v,hq,rfl,h7,h8,h9,h3,hv3,hh3⟩
 by_cases hlt:q < L.length
 · simp[go_sem,h7,h8,h9,h3,hv3,hh3,hlt,yro hlt hm]
   refine⟨⟨by omega,by omega⟩,L.length - (q+1),by omega,q+1,by omega,rfl,rfl,?_⟩
   rw[← List.map_take,← List.map_take,List.take_succ_eq_append_getElem hlt]
   simp only[List.map_append,List.map_cons,List.map_nil]
   rfl
 · simp[go_sem,h7,h8,h9,h3,hv3,hh3,hlt]
   rw[List.take_of_length_le (by omega)]at hh3
   refine PostR.retW [3] ?_ (.refl _)
   simp[go_sem,h3,hv3,hh3]
end Go.Proofs.YthjmjdleecmaeaaGreat
