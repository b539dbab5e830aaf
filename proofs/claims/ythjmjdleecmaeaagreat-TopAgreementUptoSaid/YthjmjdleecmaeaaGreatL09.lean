/- Several texts of the proof in one: Fj, Fm. No condition. -/
import Derived.Test.YthjmjdleecmaeaaGreatL08
set_option linter.unusedSimpArgs false
set_option linter.unusedVariables false
set_option maxHeartbeats 4000000
set_option maxRecDepth 8000
namespace Go.Abs
open Go Go.RowKit
def ypy (G:Ctx) (own:List Nat):Code→(Exit→St→Prop)→St→Prop
 | .skip,Q,st=>Q .normal st
 | .label _,Q,st=>Q .normal st
 | .ret,Q,st=>Q .ret st
 | .exit id,Q,st=>Q (.exit id) st
 | .region id ops draw,Q,st=>match draw with
  | false=>if (1000000+id)∈own then AWp G (.region id ops false) Q st else vcOps G own ops (Q .normal) ops.toList st
  | true=>AWp G (.region id ops true) Q st
 | .seq a b,Q,st=>ypy G own a (thenA (ypy G own b Q) Q) st
 | .cond c a b,Q,st=>ztn (st.ev c) fun t=>if t=true then ypy G own a Q st else ypy G own b Q st
 | .block id c,Q,st=>ypy G own c (zn9 id Q) st
 | .loop c,Q,st=>AWp G (.loop c) Q st
 | .rangeFunc f ps x c,Q,st=>AWp G (.rangeFunc f ps x c) Q st
 | .scope c,Q,st=>AWp G (.scope c) Q st
 | .goto l,Q,st=>AWp G (.goto l) Q st
 | .refuse _,_,_=>False
theorem AWp.of_vc {G:Ctx} (own:List Nat):∀ {c:Code} {Q:Exit→St→Prop} {st:St},ypy G own c Q st→AWp G c Q st
 | .skip,_,_,h=>.skip h
 | .label _,_,_,h=>.label h
 | .ret,_,_,h=>.ret h
 | .exit _,_,_,h=>.exit h
 | .region id ops false,Q,st,h=>by
  have h':if (1000000+id)∈own then AWp G (.region id ops false) Q st else vcOps G own ops (Q .normal) ops.toList st:=h
  split at h'
  · exact h'
  · exact .region own h'
 | .region _ _ true,_,_,h=>h
 | .seq a b,Q,st,h=>by
  have h':ypy G own a (thenA (ypy G own b Q) Q) st:=h
  refine .seq (AWp.mono (AWp.of_vc own h') fun e s hq=>?_)
  cases e with
  | normal=>exact AWp.of_vc own (c:=b) (Q:=Q) hq
  | _=>exact hq
 | .cond _ _ _,_,_,h=>by
  obtain⟨t,h1,h2⟩:=h
  refine .cond h1 ?_
  split
  · rename_i ht;rw[if_pos ht]at h2;exact AWp.of_vc own h2
  · rename_i ht;rw[if_neg ht]at h2;exact AWp.of_vc own h2
 | .block _ _,_,_,h=>.block (AWp.of_vc own h)
 | .loop _,_,_,h=>h
 | .rangeFunc _ _ _ _,_,_,h=>h
 | .scope _,_,_,h=>h
 | .goto _,_,_,h=>h
 | .refuse _,_,_,h=>h.elim
theorem AWp.loop_vc {G:Ctx} (own:List Nat) {c:Code} {Q:Exit→St→Prop} {st:St} (I:Nat→St→Prop) (n₀:Nat) (h₀:I n₀ st)
 (round:∀ n s,I n s→ypy G own c (thenA (fun s'=>∃ n',n' < n∧I n' s') Q) s):AWp G (.loop c) Q st :=
 AWp.loop I n₀ h₀ fun n s h=>AWp.of_vc own (round n s h)
@[congr] theorem AWp_congr {G:Ctx} {c:Code} {Q:Exit→St→Prop} {st st':St} (h:st=st'):AWp G c Q st=AWp G c Q st':=by rw[h]
@[congr] theorem vcCode_congr {G:Ctx} {own:List Nat} {c:Code} {Q:Exit→St→Prop} {st st':St} (h:st=st'):ypy G own c Q st=ypy G own c Q st':=by rw[h]
@[congr] theorem vcOps_congr {G:Ctx} {own:List Nat} {ops:Array Oper} {Q:St→Prop} {l:List Oper} {st st':St} (h:st=st'):vcOps G own ops Q l st=vcOps G own ops Q l st':=by rw[h]
@[congr] theorem vcOp_congr {G:Ctx} {own:List Nat} {K:St→Prop} {o:Oper} {st st':St} (h:st=st'):vcOp G own K o st=vcOp G own K o st':=by rw[h]
@[congr] theorem CallSem_congr {G:Ctx} {g:FuncId} {args args':List AV} {dst:Option Tmp} {K:St→Prop} {st st':St} (ha:args=args') (h:st=st'):CallSem G g args dst K st=CallSem G g args' dst K st':=by rw[h,ha]
@[congr] theorem thenA_congr {K:St→Prop} {Q:Exit→St→Prop} {e:Exit} {st st':St} (h:st=st'):thenA K Q e st=thenA K Q e st':=by rw[h]
@[congr] theorem inBlockA_congr {id:Nat} {Q:Exit→St→Prop} {e:Exit} {st st':St} (h:st=st'):zn9 id Q e st=zn9 id Q e st':=by rw[h]
def zsn:AV→Bool
 | .fresh ..=>false
 | .tup rs=>rs.all fun r=>!r.isFresh
 | _=>true
theorem yoo (d:Nat) (st:St):∀ (rs:List AV) (i:Nat),(rs.all fun r=>!r.isFresh)=true→St.takeComps d i rs st=(st,rs)
 | [],_,_=>rfl
 | r::rs,i,h=>by
  simp only[List.all_cons,Bool.and_eq_true]at h
  have ih:=yoo d st rs (i+1) h.2
  cases r<;>first|(simp[AV.isFresh]at h;done)|(simp only[St.takeComps,ih])
theorem yow (d:Nat) (st:St) (r:AV) (h:zsn r=true):St.take d r st=(st,r):=by
 cases r with
 | fresh _ _ _=>cases h
 | tup rs=>simp only[St.take,yoo d st rs 0 h]
 | _=>rfl
def zae (G:Ctx) (st:St) (g:FuncId) (args:List AV) (r:AV):Prop :=
 (AC G.P g args r∨(AC G.P g (args.map (ze9 st)) r∧FlatR r))∧zsn r=true
def CalmStep (G:Ctx) (st:St) (o:Oper) (r:AV):Prop :=
 match o.op with
 | .box _ x=>o.dst.isSome=true∧zth st (st.ev x)=true∧r=.eptr (st.ev x).cells 0
 | .build t parts=>zfi G.P st t parts=some r
 | .buildSlice t len parts=>o.dst.isSome=true∧∃ e sz xs,litAV G.P st t len parts=some (e,sz,xs)∧r=.lst sz xs
 | .call c=>match c.callee with
  | .builtin .len=>evalV G.P st o.op=some r
  | .builtin _=>False
  | .value f=>match st.ev f with
   | .fn (.func g) first captured=>zae G st g (first++(c.args.toList.map st.ev++captured)) r
   | _=>False
  | .invoke ..=>False
 | .alloc _|.store ..|.select ..=>False
 | op=>evalV G.P st op=some r
theorem CalmStep.vc {G:Ctx} {st:St} {o:Oper} {r:AV} {K:St→Prop} (hd:dstOK G.n o.dst) (h:CalmStep G st o r) (hk:K (st.put o.dst r)):vcOp G [] K o st:=by
 unfold CalmStep at h
 unfold vcOp
 cases ho:o.op with
 | box t x =>
  simp only[ho]at h ⊢
  obtain⟨h1,h2,rfl⟩:=h
  cases hdd:o.dst with
  | none=>simp[hdd]at h1
  | some d=>rw[hdd]at hk;exact⟨h2,by show (if d∈([]:List Nat) then _ else _);rw[if_neg (by simp)];exact hk⟩
 | build t parts=>simp only[ho]at h ⊢;exact⟨r,h,hk⟩
 | buildSlice t len parts =>
  simp only[ho]at h ⊢
  obtain⟨h1,e,sz,xs,h2,rfl⟩:=h
  cases hdd:o.dst with
  | none=>simp[hdd]at h1
  | some d=>rw[hdd]at hk;exact⟨(e,sz,xs),h2,by show (if d∈([]:List Nat) then _ else _);rw[if_neg (by simp)];exact hk⟩
 | call c =>
  simp only[ho]at h ⊢
  cases hc:c.callee with
  | builtin b =>
   simp only[hc]at h ⊢
   cases b<;>first|(exact h.elim)|exact⟨r,h,hk⟩
  | invoke _ _=>simp only[hc]at h
  | value f =>
   simp only[hc]at h ⊢
   split at h
   · rename_i g first captured hf
     simp only[hf]
     obtain⟨h1,h2⟩:=h
     have ht:=yow (G.ids (o.dst.getD 0)) st r h2
     rcases h1 with h1|⟨h1,h3⟩
     · exact .inl ⟨g,first,captured,rfl,CallSem.pure h1 hd (by rw[ht];exact hk)⟩
     · exact .inl ⟨g,first,captured,rfl,CallSem.lent h1 h3 hd (by rw[ht];exact hk)⟩
   · exact h.elim
 | binOp op t x y k =>
  simp only[ho]at h ⊢
  exact .inr ⟨zsm (st:=st) (show binAV G.P op t (st.ev x) (st.ev y)=some r from h),r,h,hk⟩
 | alloc _=>simp only[ho]at h
 | store _ _ _=>simp only[ho]at h
 | select _ _=>simp only[ho]at h
 | makeSlice _ _ _=>simp only[ho]at h;cases h
 | makeMap _ _=>simp only[ho]at h;cases h
 | mapUpdate _ _ _ _=>simp only[ho]at h;cases h
 | mapEntry _ _ _=>simp only[ho]at h;cases h
 | entryStore _ _ _ _=>simp only[ho]at h;cases h
 | range _ _=>simp only[ho]at h;cases h
 | next _ _=>simp only[ho]at h;cases h
 | entry _=>simp only[ho]at h;cases h
 | slice t x lo hi mx =>
  simp only[ho]at h ⊢
  cases hx:st.ev x with
  | rptr id k i j =>
   have h':yi9 G.P st t lo hi mx (st.ev x)=some r:=h
   rw[hx]at h'
   cases h'
  | _=>exact⟨r,h,hk⟩
 | convert s d x =>
  simp only[ho]at h ⊢
  unfold zuc
  split
  · rename_i b hc hx
    exfalso
    have h':(if (G.P.underlying s).isSome then zhg G.P s d (st.ev x) else none)=some r:=h
    rw[hx]at h'
    split at h'
    case isFalse=>cases h'
    unfold zoq at hc
    obtain⟨e,he,hi⟩:=Option.bind_eq_some_iff.1 (of_decide_eq_true hc)
    have hd:=ylr he
    simp[zhg,tStr,hd]at h'
  · exact⟨r,h,hk⟩
 | _=>simp only[ho]at h ⊢;exact⟨r,h,hk⟩
section
variable {G:Ctx} {st:St} {σ':Nat→AV}
theorem okCell_σ (p:AV):zte { st with σ:=σ' } p=zte st p:=by cases p<;>rfl
theorem okCells_σ (p:AV):zth { st with σ:=σ' } p=zth st p:=by
 unfold zth;rw[show zte { st with σ:=σ' }=zte st from funext okCell_σ]
theorem ldCells_σ (m:Nat) (p:AV):zp9 { st with σ:=σ' } m p=zp9 st m p:=by cases p<;>rfl
theorem ldAV_σ (t:TypeId) (p:AV):ldAV G.P { st with σ:=σ' } t p=ldAV G.P st t p:=by simp only[ldAV,ldCells_σ]
theorem fieldAddrAV_σ (t:TypeId) (f:Nat) (p:AV):zju G.P { st with σ:=σ' } t f p=zju G.P st t f p:=by cases p<;>rfl
theorem indexAddrAV_σ (t:TypeId) (p q:AV):zod G.P { st with σ:=σ' } t p q=zod G.P st t p q:=by unfold zod;rfl
theorem lenAV_σ (t:TypeId) (p:AV):lenAV G.P { st with σ:=σ' } t p=lenAV G.P st t p:=by unfold lenAV;rfl
theorem lookupAV_σ (t:TypeId) (ok:Bool) (p q:AV):zqu G.P { st with σ:=σ' } t ok p q=zqu G.P st t ok p q:=by unfold zqu;rfl
theorem borrow_σ (p:AV):ze9 { st with σ:=σ' } p=ze9 st p:=by
 have h0:zfa { st with σ:=σ' }=zfa st:=by funext q;cases q<;>rfl
 have h1:zfc { st with σ:=σ' }=zfc st:=by funext q;unfold zfc;rw[h0]
 unfold ze9;rw[h1]
theorem boundAV_σ (d:Nat) (x:Option Operand) (hx:∀ o,x=some o→St.ev { st with σ:=σ' } o=st.ev o):zfg { st with σ:=σ' } d x=zfg st d x:=by
 cases x with
 | none=>rfl
 | some o=>simp only[zfg,hx o rfl]
theorem evParts_σ (parts:Array (Nat×Operand)) (hp:∀ x∈(parts.toList.map (·.2)).toArray,St.ev { st with σ:=σ' } x=st.ev x):zi6 { st with σ:=σ' } parts=zi6 st parts:=by
 unfold zi6
 refine List.map_congr_left fun x hx=>?_
 rw[hp x.2 (by simpa using ⟨x.1,by simpa using hx⟩)]
theorem CalmStep.of_same {o:Oper} {r:AV} (he:∀ x∈o.op.operands,St.ev { st with σ:=σ' } x=st.ev x) (hc:CalmStep G st o r):CalmStep G { st with σ:=σ' } o r:=by
 unfold CalmStep at hc ⊢
 cases ho:o.op with
 | box t x =>
  rw[ho]at he
  simp only[ho]at hc ⊢
  rw[he x (by simp[Op.operands]),okCells_σ];exact hc
 | build t parts =>
  rw[ho]at he
  simp only[ho]at hc ⊢
  unfold zfi at hc ⊢
  rw[evParts_σ parts (by simpa [Op.operands] using he)]
  simp only[okCells_σ];exact hc
 | buildSlice t len parts =>
  rw[ho]at he
  simp only[ho]at hc ⊢
  obtain⟨h1,e,sz,xs,h2,h3⟩:=hc
  refine⟨h1,e,sz,xs,?_,h3⟩
  unfold litAV at h2 ⊢
  rw[evParts_σ parts (by simpa [Op.operands] using he)]
  simp only[okCells_σ];exact h2
 | call c =>
  rw[ho]at he
  simp only[ho]at hc ⊢
  cases hcal:c.callee with
  | builtin b =>
   simp only[hcal]at hc ⊢
   cases b<;>first|(exact hc.elim)|skip
   unfold evalV at hc ⊢
   simp only[hcal]at hc ⊢
   split at hc
   · rename_i x t hargs htypes
     have:x∈c.args:=by rw[← Array.mem_toList_iff,hargs];simp
     rw[he x (by simp[Op.operands,Call.operands,this]),lenAV_σ];exact hc
   · cases hc
  | invoke _ _=>simp only[hcal]at hc
  | value f =>
   simp only[hcal]at hc ⊢
   rw[he f (by simp[Op.operands,Call.operands,hcal])]
   have hargs:c.args.toList.map (St.ev { st with σ:=σ' })=c.args.toList.map st.ev:=List.map_congr_left fun x hx=>he x (by simp[Op.operands,Call.operands,Array.mem_toList_iff.1 hx])
   rw[hargs]
   split at hc
   · rename_i g first captured hf
     unfold zae at hc ⊢
     have hb:ze9 { st with σ:=σ' }=ze9 st:=funext borrow_σ
     rw[hb];exact hc
   · exact hc.elim
 | alloc _=>simp only[ho]at hc
 | store _ _ _=>simp only[ho]at hc
 | select _ _=>simp only[ho]at hc
 | slice t x lo hi mx =>
  rw[ho]at he
  simp only[ho]at hc ⊢
  unfold evalV at hc ⊢
  simp only[Op.operands]at he
  have hx:St.ev { st with σ:=σ' } x=st.ev x:=he x (by simp)
  have hl:∀ o,lo=some o→St.ev { st with σ:=σ' } o=st.ev o:=fun o h=>he o (by simp[h])
  have hh:∀ o,hi=some o→St.ev { st with σ:=σ' } o=st.ev o:=fun o h=>he o (by simp[h])
  have hm:∀ o,mx=some o→St.ev { st with σ:=σ' } o=st.ev o:=fun o h=>he o (by simp[h])
  simp only[hx]at hc ⊢
  have e:yi9 G.P { st with σ:=σ' } t lo hi mx (st.ev x)=yi9 G.P st t lo hi mx (st.ev x):=by
   unfold yi9
   split
   · rw[boundAV_σ _ _ hl,boundAV_σ _ _ hh]
   · rw[boundAV_σ _ _ hl,boundAV_σ _ _ hh,boundAV_σ _ _ hm]
   · simp only[boundAV_σ _ _ hl,boundAV_σ _ _ hh,boundAV_σ _ _ hm]
   · simp only[boundAV_σ _ _ hl,boundAV_σ _ _ hh]
   · rfl
  rw[e];exact hc
 | makeFunc f first captured =>
  rw[ho]at he
  simp only[ho]at hc ⊢
  unfold evalV at hc ⊢
  simp only[Op.operands]at he
  have h1:first.toList.map (St.ev { st with σ:=σ' })=first.toList.map st.ev:=List.map_congr_left fun x hx=>he x (by simp[Array.mem_toList_iff.1 hx])
  have h2:captured.toList.map (St.ev { st with σ:=σ' })=captured.toList.map st.ev:=List.map_congr_left fun x hx=>he x (by simp[Array.mem_toList_iff.1 hx])
  simp only[h1,h2];exact hc
 | move x=>rw[ho]at he;simp only[ho,evalV,Op.operands]at *;rw[he x (by simp)];exact hc
 | assign x=>rw[ho]at he;simp only[ho,evalV,Op.operands]at *;rw[he x (by simp)];exact hc
 | pick c x y=>rw[ho]at he;simp only[ho,evalV,Op.operands]at *;rw[he c (by simp),he x (by simp),he y (by simp)];exact hc
 | load t x=>rw[ho]at he;simp only[ho,evalV,Op.operands]at *;rw[he x (by simp),ldAV_σ];exact hc
 | binOp op t x y yt=>rw[ho]at he;simp only[ho,evalV,Op.operands]at *;rw[he x (by simp),he y (by simp)];exact hc
 | makeInterface t x=>rw[ho]at he;simp only[ho,evalV,Op.operands]at *;rw[he x (by simp)];exact hc
 | unOp op t x=>rw[ho]at he;simp only[ho,evalV,Op.operands]at *;rw[he x (by simp)];exact hc
 | convert s d x=>rw[ho]at he;simp only[ho,evalV,Op.operands]at *;rw[he x (by simp)];exact hc
 | nilCheck x=>rw[ho]at he;simp only[ho,evalV,Op.operands]at *;rw[he x (by simp)];exact hc
 | fieldAddr t x f=>rw[ho]at he;simp only[ho,evalV,Op.operands]at *;rw[he x (by simp),fieldAddrAV_σ];exact hc
 | field t x f=>rw[ho]at he;simp only[ho,evalV,Op.operands]at *;rw[he x (by simp)];exact hc
 | indexAddr t x i=>rw[ho]at he;simp only[ho,evalV,Op.operands]at *;rw[he x (by simp),he i (by simp),indexAddrAV_σ];exact hc
 | index t x i=>rw[ho]at he;simp only[ho,evalV,Op.operands]at *;rw[he x (by simp),he i (by simp)];exact hc
 | extract x i=>rw[ho]at he;simp only[ho,evalV,Op.operands]at *;rw[he x (by simp)];exact hc
 | lookup t m k ok=>rw[ho]at he;simp only[ho,evalV,Op.operands]at *;rw[he m (by simp),he k (by simp),lookupAV_σ];exact hc
 | _=>simp only[ho,evalV]at hc;first|(cases hc;done)|skip
end
def AYields (G:Ctx) (ops:Array Oper) (st:St) (o:Oper) (r:AV):Prop :=
 dstOK G.n o.dst∧match o.guard with
 | none=>CalmStep G st o r
 | some (j,want)=>∃ t b,zm7 ops j=some t∧zm8 (st.σ t) want=some b∧if b=true then CalmStep G st o r else r=.v undef
section
variable {G:Ctx} {ops:Array Oper} {md:Region.Mode}
theorem put_eq (st:St) (d:Option Tmp) (r:AV):st.put d r={ st with σ:=(st.put d r).σ }:=by cases d<;>rfl
theorem AYields.of_put {st:St} {o:Oper} {r:AV} {d:Option Tmp} {u:AV} (h:∀ x,d=some x→x∉o.looksAt ops) (hy:AYields G ops st o r):AYields G ops (st.put d u) o r:=by
 have hev:∀ x∈o.op.operands,St.ev (st.put d u) x=st.ev x:=by
  intro x hx
  cases d with
  | none=>rfl
  | some e =>
   cases x with
   | tmp t =>
    have hne:t≠e:=fun he=>h e rfl (by subst he;exact List.mem_append_left _ (List.mem_filterMap.2 ⟨.tmp t,by simpa using hx,rfl⟩))
    simp[St.ev,St.put,upd,hne]
   | _=>rfl
 have hcalm:CalmStep G st o r→CalmStep G (st.put d u) o r:=fun hc=>by
  rw[put_eq]at hev ⊢
  exact CalmStep.of_same hev hc
 refine⟨hy.1,?_⟩
 have hy2:=hy.2
 cases hg:o.guard with
 | none=>simp only[hg]at hy2 ⊢;exact hcalm hy2
 | some jw =>
  obtain⟨j,want⟩:=jw
  simp only[hg]at hy2 ⊢
  obtain⟨t,b,h1,h2,h3⟩:=hy2
  refine⟨t,b,h1,?_,?_⟩
  · cases d with
    | none=>exact h2
    | some e =>
     have hne:t≠e:=fun he=>h e rfl (by subst he;unfold zm7 at h1;simp[Oper.looksAt,hg,h1])
     simp only[St.put,upd,hne,if_false];exact h2
  · split
    · rename_i hb;rw[if_pos hb]at h3;exact hcalm h3
    · rename_i hb;rw[if_neg hb]at h3;exact h3
theorem St.put_comm (st:St) {x y:Option Tmp} (v u:AV) (h:∀ d,x=some d→y≠some d):(st.put x v).put y u=(st.put y u).put x v:=by
 cases x with
 | none=>rfl
 | some d =>
  cases y with
  | none=>rfl
  | some e =>
   have hne:d≠e:=fun he=>h d rfl (he ▸ rfl)
   simp only[St.put]
   congr 1
   funext j
   simp only[upd]
   by_cases h1:j=e
   · subst h1;simp[Ne.symm hne]
   · simp[h1]
def anyA (G:Ctx) (md:Region.Mode) (ops:Array Oper) (n:Nat) (L:Array Bool→St→Prop):Nat→Array Bool→St→Prop
 | 0,listed,st=>L listed st
 | f+1,listed,st=>Region.ready md ops listed≠[]∧∀ i∈Region.ready md ops listed,i < n∧∃ o r,ops[i]? = some o∧AYields G ops st o r∧anyA G md ops n L f (listed.setIfInBounds i true) (st.put o.dst r)
theorem zdg {n i:Nat} {oi:Oper} {v:AV} {L:Array Bool→St→Prop} (hi:ops[i]? = some oi) (hin:i < n)
 (tail:∀ listed,HeadInv md ops n listed→i∈Region.ready md ops listed→∀ t,n≤t→t∉Region.ready md ops listed) (hdone:∀ listed st,L listed st→∀ j∈Region.ready md ops listed,n≤j) :
 ∀ (f:Nat) (listed:Array Bool) (st:St),HeadInv md ops n listed →
  (∀ j oj,ops[j]? = some oj→j≠i→listed.getD j true=false→(∀ e∈oj.after,Region.binds md e=true→e.on≠i)→oi.apart ops oj=true) →
  i∈Region.ready md ops listed→AYields G ops st oi v→anyA G md ops n L f (listed.setIfInBounds i true) (st.put oi.dst v)→anyA G md ops n L (f+1) listed st:=by
 intro f
 induction f with
 | zero =>
  intro listed st inv _ hr hy H
  refine⟨fun h=>(by rw[h]at hr;cases hr),fun j hj=>?_⟩
  have hjn:j < n:=by
   rcases Nat.lt_or_ge j n with h|h
   · exact h
   · exact absurd hj (tail listed inv hr j h)
  refine⟨hjn,?_⟩
  by_cases hji:j=i
  · subst hji;exact⟨oi,v,hi,hy,H⟩
  · have:=hdone _ _ H j (ready_mono hj hji)
    omega
 | succ f ih =>
  intro listed st inv hfree hr hy H
  refine⟨fun h=>(by rw[h]at hr;cases hr),fun j hj=>?_⟩
  have hjn:j < n:=by
   rcases Nat.lt_or_ge j n with h|h
   · exact h
   · exact absurd hj (tail listed inv hr j h)
  refine⟨hjn,?_⟩
  by_cases hji:j=i
  · subst hji;exact⟨oi,v,hi,hy,H⟩
  · obtain⟨_,oj,rj,hoj,hyj,H1⟩:=H.2 j (ready_mono hj hji)
    obtain⟨hjun,oj',hoj',hall⟩:=mem_ready.1 hj
    have:oj'=oj:=Option.some.inj (hoj'.symm.trans hoj)
    subst this
    have hun:=(mem_ready.1 hr).1
    have hnot:∀ e∈oj'.after,Region.binds md e=true→e.on≠i:=fun e he hb heq=>by
     have h1:=hall e he hb
     rw[heq,getD_both hun]at h1
     cases h1
    have hap:=hfree j oj' hoj hji hjun hnot
    obtain⟨a1,a2,a3⟩:=Oper.apart_spec hap
    have hyj':AYields G ops st oj' rj:=by
     -- the state without oi's value: that slot is not looked at
     have hput:∀ x,oi.dst=some x→x∉oj'.looksAt ops:=a1
     have h2:=AYields.of_put (u:=match oi.dst with|some d=>st.σ d|none=>.junk) hput hyj
     have hback:(st.put oi.dst v).put oi.dst (match oi.dst with|some d=>st.σ d|none=>.junk)=st:=by
      cases oi.dst with
      | none=>rfl
      | some d =>
       simp only[St.put]
       have:upd (upd st.σ d v) d (st.σ d)=st.σ:=by funext k;by_cases hk:k=d<;>simp[upd,hk]
       rw[this]
     rw[hback]at h2;exact h2
    refine⟨oj',rj,hoj,hyj',?_⟩
    have hfree':∀ k ok,ops[k]? = some ok→k≠i→(listed.setIfInBounds j true).getD k true=false →
     (∀ e∈ok.after,Region.binds md e=true→e.on≠i)→oi.apart ops ok=true:=fun k ok hk hki hun' hno=>by
     refine hfree k ok hk hki ?_ hno
     by_cases hjk:j=k
     · subst hjk;exact hjun
     · rw[getD_set_ne true hjk]at hun';exact hun'
    refine ih (listed.setIfInBounds j true) _ (inv.set hj hjn) hfree' (ready_mono hr (Ne.symm hji)) (hy.of_put a3) ?_
    rw[Array.setIfInBounds_comm _ _ hji,← St.put_comm st v rj a2]
    exact H1
def calmV (G:Ctx) (st:St) (o:Oper):Option AV :=
 match o.op with
 | .box _ x=>if o.dst.isSome=true∧zth st (st.ev x)=true then some (.eptr (st.ev x).cells 0) else none
 | .build t parts=>zfi G.P st t parts
 | .buildSlice t len parts=>if o.dst.isSome=true then (litAV G.P st t len parts).map fun x=>.lst x.2.1 x.2.2 else none
 | .call c=>match c.callee with
  | .builtin .len=>evalV G.P st o.op
  | _=>none
 | .alloc _|.store ..|.select ..=>none
 | op=>evalV G.P st op
def CalmThen (G:Ctx) (g:FuncId) (args:List AV) (K:AV→Prop) (st:St):Prop:=∃ r,zae G st g args r∧K r
@[congr] theorem CalmThen_congr {G:Ctx} {g:FuncId} {args args':List AV} {K:AV→Prop} {st st':St} (ha:args=args') (h:st=st'):CalmThen G g args K st=CalmThen G g args' K st':=by rw[ha,h]
theorem CalmThen.pure {G:Ctx} {g:FuncId} {args:List AV} {K:AV→Prop} {st:St} {r:AV} (h:AC G.P g args r) (hn:zsn r=true) (hk:K r):CalmThen G g args K st:=⟨r,⟨.inl h,hn⟩,hk⟩
theorem CalmThen.lent {G:Ctx} {g:FuncId} {args:List AV} {K:AV→Prop} {st:St} {r:AV} (h:AC G.P g (args.map (ze9 st)) r) (hf:FlatR r) (hn:zsn r=true) (hk:K r):CalmThen G g args K st:=⟨r,⟨.inr ⟨h,hf⟩,hn⟩,hk⟩
def zf3 (G:Ctx) (o:Oper) (K:AV→Prop) (st:St):Prop :=
 match o.op with
 | .call c=>match c.callee with
  | .value f=>onFn (st.ev f) fun g first captured=>CalmThen G g (first++(c.args.toList.map st.ev++captured)) K st
  | _=>bindP (calmV G st o) K
 | _=>bindP (calmV G st o) K
@[congr] theorem calmThen_congr {G:Ctx} {o:Oper} {K:AV→Prop} {st st':St} (h:st=st'):zf3 G o K st=zf3 G o K st':=by rw[h]
theorem zf4 {G:Ctx} {o:Oper} {K:AV→Prop} {st:St} (h:zf3 G o K st):∃ r,CalmStep G st o r∧K r:=by
 have val:bindP (calmV G st o) K→∃ r,CalmStep G st o r∧K r:=by
  rintro⟨r,hr,hk⟩
  refine⟨r,?_,hk⟩
  unfold calmV at hr
  unfold CalmStep
  cases ho:o.op with
  | box t x =>
   simp only[ho]at hr ⊢
   split at hr
   · rename_i hc;cases hr;exact⟨hc.1,hc.2,rfl⟩
   · cases hr
  | build t parts=>simp only[ho]at hr ⊢;exact hr
  | buildSlice t len parts =>
   simp only[ho]at hr ⊢
   split at hr
   · rename_i hc
     obtain⟨⟨e,sz,xs⟩,h1,rfl⟩:=Option.map_eq_some_iff.1 hr
     exact⟨hc,e,sz,xs,h1,rfl⟩
   · cases hr
  | call c =>
   simp only[ho]at hr ⊢
   cases hc:c.callee with
   | builtin b=>simp only[hc]at hr ⊢;cases b<;>first|(cases hr;done)|exact hr
   | invoke _ _=>simp only[hc]at hr;cases hr
   | value f=>simp only[hc]at hr;cases hr
  | alloc _=>simp only[ho]at hr;cases hr
  | store _ _ _=>simp only[ho]at hr;cases hr
  | select _ _=>simp only[ho]at hr;cases hr
  | _=>simp only[ho]at hr ⊢;exact hr
 unfold zf3 at h
 split at h
 · rename_i c ho
   split at h
   · rename_i f hc
     obtain⟨g,first,captured,hf,r,h1,h2⟩:=h
     refine⟨r,?_,h2⟩
     unfold CalmStep
     simp only[ho,hc,hf]
     exact h1
   · exact val h
 · exact val h
def ypw (G:Ctx) (ops:Array Oper) (Q:St→Prop):List Oper→St→Prop
 | [],st=>Q st
 | o::rest,st=>dstOK G.n o.dst∧match o.guard with
  | none=>zf3 G o (fun r=>ypw G ops Q rest (st.put o.dst r)) st
  | some (j,want)=>match zm7 ops j with
   | some t=>bindP (zm8 (st.σ t) want) fun b=>if b=true then zf3 G o (fun r=>ypw G ops Q rest (st.put o.dst r)) st else ypw G ops Q rest (st.put o.dst (.v undef))
   | none=>False
theorem ypx {Q:St→Prop} {o:Oper} {rest:List Oper} {st:St} (h:ypw G ops Q (o::rest) st):∃ r,AYields G ops st o r∧ypw G ops Q rest (st.put o.dst r):=by
 obtain⟨hd,h⟩:=h
 cases hg:o.guard with
 | none =>
  simp only[hg]at h
  obtain⟨r,h1,h2⟩:=zf4 h
  exact⟨r,⟨hd,by simp only[hg];exact h1⟩,h2⟩
 | some jw =>
  obtain⟨j,want⟩:=jw
  simp only[hg]at h
  split at h
  · rename_i t ht
    · obtain⟨b,hb,h⟩:=h
      by_cases hbw:b=true
      · rw[if_pos hbw]at h
        obtain⟨r,h1,h2⟩:=zf4 h
        exact⟨r,⟨hd,by simp only[hg];exact⟨t,b,ht,hb,by rw[if_pos hbw];exact h1⟩⟩,h2⟩
      · rw[if_neg hbw]at h
        exact⟨.v undef,⟨hd,by simp only[hg];exact⟨t,b,ht,hb,by simp[hbw]⟩⟩,h⟩
  · exact h.elim
theorem zdh {n g:Nat} {Q:St→Prop} (hs:Region.sinkB md ops n=true) (hc:Region.chainB md ops n=true) (hn:n < ops.size) :
 ∀ (l:List Oper) (k:Nat) (listed:Array Bool) (st:St),(∀ j,j < l.length→l[j]? = ops[k+j]?)→k+l.length=n→HeadInv md ops n listed →
 Region.lexHead md ops g l.length k listed=true→ypw G ops Q l st→anyA G md ops n (fun listed' st'=>Region.seqB md ops g n listed'=true∧Q st') l.length listed st
 | [],k,listed,st,_,hk,_,hB,h=>by
  have:k=n:=by simpa using hk
  subst this
  exact⟨by simpa [Region.lexHead] using hB,h⟩
 | o::l,k,listed,st,hl,hk,inv,hB,h=>by
  have h0:ops[k]? = some o:=by simpa using (hl 0 (by simp)).symm
  simp only[List.length_cons,Region.lexHead,Bool.and_eq_true]at hB
  obtain⟨⟨hr,hf⟩,hB'⟩:=hB
  have hkn:k < n:=by simp only[List.length_cons]at hk;omega
  have hr':k∈Region.ready md ops listed:=by simpa using hr
  obtain⟨r,hy,hK⟩:=ypx h
  exact zdg h0 hkn (fun listed inv hr=>tail_waits hs hc hn inv _ k rfl hkn (mem_ready.1 hr).1) (fun listed' st' hL=>seqB_ready hL.1) l.length listed st inv (Region.free_spec h0 hf) hr' hy
   (zdh hs hc hn l (k+1) _ _ (fun j hj=>by have:=hl (j+1) (by simp;omega);simpa [Nat.add_assoc,Nat.add_comm 1 j] using this) (by simp only[List.length_cons]at hk;omega) (inv.set hr' hkn) hB' hK)
theorem yre {Q':Exit→Act→World→Prop}:∀ (l:List Oper) (k:Nat) (listed:Array Bool) (a:Act) (w:World),(∀ j,l[j]? = ops[k+j]?) →
 Region.seqB md ops l.length k listed=true→wpListIn G.F 0 G.P ops Q' l a w→wpAnyIn G.F 0 G.P md ops Q' l.length listed a w
 | [],_,_,_,_,_,hB,h=>⟨by simpa [Region.seqB] using hB,h⟩
 | o::l,k,listed,a,w,hl,hB,h=>by
  have h0:ops[k]? = some o:=by simpa using (hl 0).symm
  simp only[List.length_cons,Region.seqB,Bool.and_eq_true,decide_eq_true_eq]at hB
  refine⟨fun h1=>(by rw[hB.1]at h1;cases h1),fun i hi=>?_⟩
  rw[hB.1]at hi
  have hik:i=k:=by simpa using hi
  subst hik
  have hw:wpOpIn G.F 0 G.P ops Q' i (wpListIn G.F 0 G.P ops Q' l) a w:=by unfold wpOpIn;simp only[h0];exact h
  exact wpOpIn_mono (fun a' w' h'=>yre l (i+1) _ a' w' (fun j=>by have:=hl (j+1);simpa [Nat.add_assoc,Nat.add_comm 1 j] using this) hB.2 h') hw
theorem yrf {n g:Nat} {L:Array Bool→St→Prop} {Q':Exit→Act→World→Prop} (hL:∀ listed st E a,Rel G st E a→L listed st→wpAnyIn G.F 0 G.P md ops Q' g listed a E.w) :
 ∀ (f:Nat) (listed:Array Bool) (st:St) (E:Env) (a:Act),Rel G st E a→anyA G md ops n L f listed st→wpAnyIn G.F 0 G.P md ops Q' (f+g) listed a E.w
 | 0,listed,st,E,a,hr,h=>by rw[Nat.zero_add];exact hL _ _ _ _ hr h
 | f+1,listed,st,E,a,hr,h=>by
  rw[show f+1+g=(f+g)+1 by omega]
  refine⟨fun h0=>absurd h0 h.1,fun i hi=>?_⟩
  obtain⟨_,o,r,ho,hy,hrest⟩:=h.2 i hi
  have ih:=yrf (n:=n) hL f (listed.setIfInBounds i true)
  obtain⟨hd,hy⟩:=hy
  have go:CalmStep G st o r→o.wpIn G.F 0 G.P a E.w (wpAnyIn G.F 0 G.P md ops Q' (f+g) (listed.setIfInBounds i true)) Q':=fun hc =>
   Oper.wpIn_mono (fun a' w' ⟨st',E',hw,hrel,hk⟩=>by subst hw;exact ih st' E' a' hrel hk) (yp0 [] (K:=fun st'=>anyA G md ops n L f (listed.setIfInBounds i true) st') hd hr (hc.vc hd hrest))
  unfold wpOpIn
  simp only[ho]
  unfold Region.wanted
  cases hg:o.guard with
  | none=>simp only[hg]at hy;simp only[if_true];exact go hy
  | some jw =>
   obtain⟨j,want⟩:=jw
   simp only[hg]at hy
   obtain⟨t,b,ht,hb,hyy⟩:=hy
   simp only[zm9 hr ht hb]
   cases b with
   | true =>
    simp only[if_true]at hyy ⊢
    exact go hyy
   | false =>
    simp only[Bool.false_eq_true,if_false]at hyy ⊢
    subst hyy
    exact⟨fun _ _=>trivial,ih _ E _ (hr.put (.v undef) (fun d he=>by rw[he]at hd;exact hd)) hrest⟩
theorem Rel.drew {st:St} {E:Env} {a:Act} (hr:Rel G st E a):Rel G st { E with w:={ E.w with drawn:=E.w.drawn+1 } } a :=
 hr.later (E':={ E with w:={ E.w with drawn:=E.w.drawn+1 } }) ⟨fun _ h=>h,fun _ _=>rfl,fun _=>Nat.le_refl _,fun _ _=>rfl⟩ rfl hr.below.drew hr.Slt (fun _ h=>.inl h) fun _ _=>rfl
theorem AWp.draw {id n:Nat} {l:List Oper} {Q:Exit→St→Prop} {st:St} (own:List Nat) (hm:G.P.follows .mixedOrders=true) (hB:Region.lexTailB .any l.toArray n=true)
 (h:ypw G l.toArray (fun st'=>vcOps G own l.toArray (Q .normal) (l.drop n) st') (l.take n) st):AWp G (.region id l.toArray true) Q st:=fun E a hr=>by
 simp only[Region.lexTailB,Bool.and_eq_true,decide_eq_true_eq]at hB
 obtain⟨⟨⟨⟨hsel,hn⟩,hs⟩,hc⟩,hlex⟩:=hB
 have hn':n < l.length:=by simpa using hn
 have htl:(l.take n).length=n:=by simp;omega
 have hdl:(l.drop n).length=l.toArray.size - n:=by simp
 have inv0:HeadInv .any l.toArray n (Array.replicate l.toArray.size false) :=
  ⟨by simp,fun j oj _ hl=>(by rw[getD_replicate_false]at hl;cases hl),fun t _ ht=>getD_in (by simpa using ht) (getD_replicate_false _ _)⟩
 have H:=zdh (G:=G) (md:=.any) (g:=l.toArray.size - n) hs hc hn (l.take n) 0 _ st (fun j hj=>by
  have hj':j < n:=by rw[htl]at hj;exact hj
  simp[hj']) (by simpa using htl) inv0 (by rw[htl];exact hlex) h
 refine wpIn_region_any hm ?_
 have:=yrf (G:=G) (Q':=fun e a' w'=>∃ st' E',E'.w=w'∧Rel G st' E' a'∧Q e st') (g:=l.toArray.size - n) (fun listed st' E' a' hr' hL=>by
  have:=yre (G:=G) (md:=.any) (Q':=fun e a' w'=>∃ st' E',E'.w=w'∧Rel G st' E' a'∧Q e st') (l.drop n) n listed a' E'.w (fun j=>by simp[List.getElem?_drop]) (by rw[hdl];exact hL.1)
   (yp2 own (l.drop n) st' E' a' hr' hL.2 fun st'' E'' _ hr'' hq=>⟨st'',E'',rfl,hr'',hq⟩)
  rwa [hdl]at this) _ _ _ _ _ hr.drew H
 rw[htl,show n+(l.toArray.size - n)=l.toArray.size by omega]at this
 exact this
theorem AWp.drawAll {id:Nat} {l:List Oper} {Q:Exit→St→Prop} {st:St} (hm:G.P.follows .mixedOrders=true) (hB:Region.lexB .any l.toArray=true)
 (h:ypw G l.toArray (Q .normal) l st):AWp G (.region id l.toArray true) Q st:=fun E a hr=>by
 simp only[Region.lexB,Bool.and_eq_true]at hB
 refine wpIn_region_any hm ?_
 have inv0:HeadInv .any l.toArray l.toArray.size (Array.replicate l.toArray.size false) :=
  ⟨by simp,fun j oj _ hl=>(by rw[getD_replicate_false]at hl;cases hl),fun t h1 h2=>by omega⟩
 have lex:∀ (l':List Oper) (k:Nat) (listed:Array Bool) (st:St),(∀ j,l'[j]? = l.toArray[k+j]?)→HeadInv .any l.toArray l.toArray.size listed→Region.lexFrom .any l.toArray l'.length k listed=true→ypw G l.toArray (Q .normal) l' st →
  anyA G .any l.toArray l.toArray.size (fun listed' st'=>Region.ready .any l.toArray listed'=[]∧Q .normal st') l'.length listed st:=by
  intro l'
  induction l' with
  | nil=>intro k listed st _ _ hB h;exact⟨by simpa [Region.lexFrom] using hB,h⟩
  | cons o l' ih =>
   intro k listed st hl inv hB h
   have h0:l.toArray[k]? = some o:=by simpa using (hl 0).symm
   simp only[List.length_cons,Region.lexFrom,Bool.and_eq_true]at hB
   obtain⟨⟨hr,hf⟩,hB'⟩:=hB
   have hkn:k < l.toArray.size:=(Array.getElem?_eq_some_iff.1 h0).1
   have hr':k∈Region.ready .any l.toArray listed:=by simpa using hr
   obtain⟨r,hy,hK⟩:=ypx h
   exact zdg h0 hkn (fun listed inv hr t ht htr=>by have:=(mem_ready.1 htr).2;obtain⟨ot,hot,_⟩:=this;have:=(Array.getElem?_eq_some_iff.1 hot).1;omega)
    (fun listed' st' hL j hj=>by rw[hL.1]at hj;cases hj) l'.length listed st inv (Region.free_spec h0 hf) hr' hy
    (ih (k+1) _ _ (fun j=>by have:=hl (j+1);simpa [Nat.add_assoc,Nat.add_comm 1 j] using this) (inv.set hr' hkn) hB' hK)
 have H:=lex l 0 (Array.replicate l.toArray.size false) st (by simp) inv0 (by simpa using hB.2) h
 have:=yrf (G:=G) (Q':=fun e a' w'=>∃ st' E',E'.w=w'∧Rel G st' E' a'∧Q e st') (g:=0) (fun listed st' E' a' hr' hL=>⟨hL.1,st',E',rfl,hr',hL.2⟩) _ _ _ _ _ hr.drew H
 simpa using this
theorem da {id:Nat} {l:List Oper} {Q:Exit→St→Prop} {st:St} (h:ypw G l.toArray (Q .normal) l st) (hm:G.P.follows .mixedOrders=true:=by rfl) (hB:Region.lexB .any l.toArray=true:=by kernel_rfl):AWp G (.region id l.toArray true) Q st:=AWp.drawAll hm hB h
end
@[congr] theorem vcCalm_congr {G:Ctx} {ops:Array Oper} {Q:St→Prop} {l:List Oper} {st st':St} (h:st=st'):ypw G ops Q l st=ypw G ops Q l st':=by rw[h]
end Go.Abs
