/- Several texts of the proof in one: S4, S5, O1, S6, S7, S8, G3. No condition. -/
import Derived.Test.YthjmjdleecmaeaaGreatL24
import Derived.Tactics
import Derived.Tactics2
import Derived.Defers
import Derived.Recover
import Derived.Laws.Pointers
set_option linter.unusedSimpArgs false
set_option linter.unusedVariables false
set_option maxHeartbeats 4000000
set_option maxRecDepth 8000
namespace Go.Proofs.YthjmjdleecmaeaaGreat
open Go Go.Abs
theorem yrl {k:Nat} (hm:k≤maxLen):IntKind.i64.wrap (k:Int)=(k:Int):=wrap_i64 (by omega) (by unfold maxLen at hm;omega)
def adj:List EntD→Bool
 | a::b::l=>prec a b&&adj (b::l)
 | _=>true
theorem zcb {α:Type} {p:α→Bool} {l:List α} {k:Nat} (h:k < l.length) (hp:p l[k]=false):l.all p=false:=by
 cases ha:l.all p with
 | false=>rfl
 | true=>rw[List.all_eq_true]at ha;have:=ha _ (List.getElem_mem h);rw[hp]at this;cases this
theorem all_true {α:Type} {p:α→Bool} {l:List α} (h:∀ (j:Nat) x,l[j]? = some x→p x=true):l.all p=true:=by
 rw[List.all_eq_true]
 intro x hx
 obtain⟨j,hj⟩:=List.mem_iff_getElem?.1 hx
 exact h j x hj
theorem zes {α:Type} {l:List α} {P:α→Prop} {k:Nat} (hk:k < l.length) (h:∀ (j:Nat) x,j < k→l[j]? = some x→P x) (hp:P l[k]):∀ (j:Nat) x,j < k+1→l[j]? = some x→P x:=by
 intro j x hj hx
 rcases Nat.lt_succ_iff_lt_or_eq.1 hj with hj|rfl
 · exact h j x hj hx
 · rw[List.getElem?_eq_getElem hk]at hx;cases hx;exact hp
end Go.Proofs.YthjmjdleecmaeaaGreat
namespace Go.Proofs.YthjmjdleecmaeaaGreat
open Go Go.Abs Go.Proofs.Tryz
def setOf (s:List EntD) (k:Int) (key:Bytes) (id:Int):List EntD :=
 s.take (fidx s ⟨k,key,0⟩)++⟨k,key,id⟩::s.drop (if fok s ⟨k,key,0⟩=true then fidx s ⟨k,key,0⟩+1 else fidx s ⟨k,key,0⟩)
theorem yop {α:Type} (p:α→Bool):∀ (l:List α) (e:α),l[(l.takeWhile p).length]? = some e→p e=false
 | [],e,h=>by simp at h
 | x::l,e,h=>by
  by_cases hx:p x=true
  · simp only[List.takeWhile_cons,hx,if_true,List.length_cons,List.getElem?_cons_succ]at h
    exact yop p l e h
  · simp only[List.takeWhile_cons,hx,Bool.false_eq_true,if_false,List.length_nil,List.getElem?_cons_zero,Option.some.injEq]at h
    subst h;simpa using hx
theorem zjq {s:List EntD} {x:EntD} (h:fidx s x < s.length):prec s[fidx s x] x=false:=by
 unfold fidx at h ⊢
 exact yop (fun e:EntD=>prec e x) s _ (List.getElem?_eq_getElem h)
theorem zlt {s:List EntD} {x:EntD} (h:fidx s x < s.length):fok s x=true↔s[fidx s x].kind=x.kind∧s[fidx s x].key=x.key:=by
 have h1:=zjq h
 unfold fok
 rw[List.getElem?_eq_getElem h]
 simp only[Option.elim_some,Bool.not_eq_true']
 constructor
 · exact fun h2=>zwu _ _ h1 h2
 · rintro⟨e1,e2⟩
   simp[prec,e1,e2,ze5]
theorem fok_out {s:List EntD} {x:EntD} (h:¬ fidx s x < s.length):fok s x=false:=by
 cases hf:fok s x with
 | false=>rfl
 | true=>exact (h (zlu hf)).elim
theorem yin (s:List EntD) (k:Int) (key:Bytes) (id:Int) (hsz:s.length≤100000):AC prog 61 [ents s,I k,S key,I id] (ents (setOf s k key id)):=by
 refine AC.ob func61 ntmps61 results61 (zzl (zye _) (zx1 _) (zx2 _) (zx1 _)) (zw3 _) fun w S'=>AWp.of_vc [19] ?_
 simp[go_sem]
 refine cpu (zko s k key) ?_
 have hle:=zjr s ⟨k,key,0⟩
 cases hf:fok s ⟨k,key,0⟩ with
 | true =>
  have hlt:=zlu hf
  have t1:(0:Int)≤(fidx s ⟨k,key,0⟩:Int)+1:=by omega
  have t2:((fidx s ⟨k,key,0⟩:Int)+1).toNat=fidx s ⟨k,key,0⟩+1:=by omega
  have t3:fidx s ⟨k,key,0⟩+1≤s.length:=hlt
  simp[go_sem,hle,t1,t2,t3,yro hlt (show s.length≤maxLen by unfold maxLen;omega)]
  refine⟨⟨by omega,by omega⟩,⟨by omega,by omega⟩,⟨by omega,by omega⟩,?_⟩
  refine PostR.retW [19] ?_ (.refl _)
  simp[go_sem,setOf,hf,List.map_take,List.map_drop]
  exact List.take_of_length_le (by simp)
 | false =>
  simp[go_sem,hle]
  refine⟨⟨by omega,by omega⟩,⟨by omega,by omega⟩,⟨by omega,by omega⟩,?_⟩
  refine PostR.retW [19] ?_ (.refl _)
  simp[go_sem,setOf,hf,List.map_take,List.map_drop]
  exact List.take_of_length_le (by simp)
theorem rsame_ac (a b:List EntD):AC prog 9 [ents a,ents b] (B (decide (a=b))):=by
 refine AC.ob func9 ntmps9 results9 (zzj (zye _) (zye _)) (zx0 _) fun w S'=>AWp.bound 0 rfl fun hlen=>AWp.of_vc [] ?_
 rw[ziv]at hlen
 by_cases hab:a.length=b.length
 case neg =>
  have hab':¬ (a.length:Int)=b.length:=by omega
  simp[go_sem,hab,hab']
  refine PostR.ret ?_
  simp[go_sem]
  intro h;exact hab (by rw[h])
 simp[go_sem,hab]
 refine AWp.loop_vc [] (fun m s=>∃ k:Nat,k≤a.length∧m=a.length - k∧s.σ 0=ents a∧s.σ 1=ents b∧s.σ 5=I k∧a.take k=b.take k) a.length ⟨0,by simp[go_sem]⟩ ?_
 rintro m s ⟨k,hk,rfl,h0,h1,h5,hno⟩
 by_cases hlt:k < a.length
 · have hlt':k < b.length:=by omega
   have bad:a[k]≠b[k]→decide (a=b)=false:=fun h=>by
    simp only[decide_eq_false_iff_not]
    rintro rfl
    exact h rfl
   simp[go_sem,h0,h1,h5,hlt,hlt']
   refine da ?_
   by_cases e1:a[k].kind=b[k].kind
   · by_cases e2:a[k].key=b[k].key
     · by_cases e3:a[k].id=b[k].id
       · have hp:a[k]=b[k]:=by cases ha:a[k];cases hb:b[k];simp_all
         simp[go_sem,h0,h1,h5,hlt,hlt',e1,e2,e3,yro hlt hlen]
         refine⟨a.length - (k+1),by omega,k+1,by omega,rfl,rfl,?_⟩
         rw[List.take_succ_eq_append_getElem hlt,List.take_succ_eq_append_getElem hlt',hno,hp]
       · simp[go_sem,h0,h1,h5,hlt,hlt',e1,e2,e3]
         refine PostR.ret ?_
         rw[bad fun h=>e3 (by rw[h])]
         simp[go_sem]
     · have e2':(a[k].key==b[k].key)=false:=by simp[e2]
       simp[go_sem,h0,h1,h5,hlt,hlt',e1,e2,e2']
       refine PostR.ret ?_
       rw[bad fun h=>e2 (by rw[h])]
       simp[go_sem]
   · simp[go_sem,h0,h1,h5,hlt,hlt',e1]
     refine PostR.ret ?_
     rw[bad fun h=>e1 (by rw[h])]
     simp[go_sem]
 · simp[go_sem,h0,h1,h5,hlt]
   refine PostR.ret ?_
   simp[go_sem]
   rw[List.take_of_length_le (by omega),List.take_of_length_le (by omega)]at hno
   exact hno
def vd (n:Int):Value:=.iface 181 (.agg #[.int .i64 n])
theorem vd_iface (n:Int):∃ t b,vd n=.iface t b:=⟨_,_,rfl⟩
theorem pins_vd (n:Int):Pins (.iface 181 (.agg [.v (.int .i64 n)])) (vd n):=zv3 (zv2 (pins_v _))
theorem conc_vd:tConc prog 181=true:=by kernel_rfl
theorem zhw (n:Int):PC prog 86 [I n] (vd n):=by
 refine PC.of_body func86 rfl rfl ntmps86 (by simp) (zzi (zx1 _)) fun w S'=>AWp.of_vc [1000000] ?_
 simp[go_sem]
 refine AWp.regionPan [] 3 (vd n) rfl ?_
 simp[go_sem,conc_vd]
 exact⟨vd_iface n,pins_vd n⟩
theorem zr5 (n:Int):AC prog 85 [B true,I n] (.tup []):=by
 refine AC.ob func85 ntmps85 results85 (zzj (zx0 _) (zx1 _)) ((fun r hr=>by cases hr)) fun w S'=>AWp.of_vc [] ?_
 simp[go_sem]
 refine PostR.normal ?_
 simp[go_sem]
theorem zr6 (n:Int):PC prog 85 [B false,I n] (vd n):=by
 refine PC.of_body func85 rfl rfl ntmps85 (by simp) (zzj (zx0 _) (zx1 _)) fun w S'=>AWp.of_vc [1000001] ?_
 simp[go_sem]
 refine AWp.regionPan [] 1 (vd n) rfl ?_
 simp[go_sem]
 exact zhw n
section
open Go.RowKit Go.Proofs.Tryz
theorem zhv (p:Addr) (x n:Int) (older:List PanicEntry) (w:World) (hc:∀ o,(w.alloc o).cell? p=some (.int .i64 x)) (hz:∀ o,(w.alloc o).frozen? p=false) :
 CallsD prog 130 #[.pointer (some p)] (.panicking ({ v:=vd n,recovered:=false }::older)) w fun e u' w' =>
  e=.returned (.tuple #[])∧u'=.panicking ({ v:=vd n,recovered:=true }::older)∧w'=(w.alloc (.cells #[.int .i64 n] 181 (0,0))).setCell p (.int .i64 n):=by
 refine callsD_of_wpS func130 rfl fun c₀ cs hu=>?_
 apply wpS_seq
 apply wpS_region
 simp[wpOpsS,Oper.upon,go_sem,recoverD,hu,ntmps130,Exit.thenS,vd]
 apply wpS_seq
 apply wpS_region
 simp[wpOpsS,Oper.upon,go_sem,Exit.thenS]
 refine wpS_cond (t:=true) (by simp[go_sem]) ?_
 simp only[if_true]
 apply wpS_seq
 apply wpS_region
 have ha:∀ (W:World) (v:Value),(Instr.typeAssert (.iface 181 v) 20 181 true).run prog W=.ok (.tuple #[v,.bool true]) W:=fun W v=>by kernel_rfl
 have hal:∀ (W:World),(zeroValue 181).run prog W=.ok (.agg #[.int .i64 0]) W:=fun W=>by kernel_rfl
 simp[wpOpsS,Oper.upon,go_sem,Exit.thenS,ha,hal,Instr.alloc,newVar,newRow]
 apply wpS_seq
 apply wpS_seq
 apply wpS_region
 simp[wpOpsS,Oper.upon,go_sem,Exit.thenS]
 refine wpS_cond (t:=false) (by simp[go_sem]) ?_
 simp only[Bool.false_eq_true,if_false]
 refine wpS_of_wp (wp_skip ?_)
 simp only[Exit.thenS]
 apply wpS_region
 simp[wpOpsS,Oper.upon,go_sem,Exit.thenS,hc,hz,bodyPostS,results,results130]
theorem dd_idle (p:Addr) (w:World) :
 CallsD prog 130 #[.pointer (some p)] .returning w fun e u' w'=>e=.returned (.tuple #[])∧u'=.returning∧w'=w:=by
 refine callsD_of_wpS func130 rfl fun c₀ cs hu=>?_
 apply wpS_seq
 apply wpS_region
 simp[wpOpsS,Oper.upon,go_sem,recoverD,hu,ntmps130,Exit.thenS]
 apply wpS_seq
 apply wpS_region
 simp[wpOpsS,Oper.upon,go_sem,Exit.thenS]
 refine wpS_cond (t:=false) (by simp[go_sem]) ?_
 simp only[Bool.false_eq_true,if_false]
 refine wpS_of_wp (wp_skip ?_)
 cases c₀
 simp_all [bodyPostS,results,results130]
theorem zhy {g:FuncId} {us cs:Array Value} {w:World} {R:Ending→World→Prop} (hfn:∃ fn,prog.funcs[g]? = some fn∧fn.body.isSome=true∧(fn.name == "runtime.NumGoroutine")=false)
 (h:Calls prog g (us++cs) (w.alloc (.cells #[.int .i64 0] 51 (0,0))) R) (T:Ending→World→Prop)
 (hT:∀ e w',R e w'→w'.heap[w.heap.size]? = some (.cells #[.int .i64 0] 51 (0,0)) ∧
  ((∃ v,e=.returned v)∧T (.returned (.int .i64 0)) (w'.setCell ⟨w.heap.size,0,none⟩ (.int .i64 0)) ∨
   ∃ n,e=.panicked [{ v:=vd n,recovered:=false }]∧T (.returned (.int .i64 n)) ((w'.alloc (.cells #[.int .i64 n] 181 (0,0))).setCell ⟨w.heap.size,0,none⟩ (.int .i64 n)))) :
 Calls prog 82 #[.func (.func g) us cs] w T:=by
 have hmf:∀ (fn:Fn) (first cap:Array Value) (w:World),(Instr.makeFunc fn first cap).run prog w=.ok (.func fn first cap) w:=fun _ _ _ _=>rfl
 go_enter_defers func82,ntmps82
 go_wp2
 obtain⟨fn,hf1,hf2,hf3⟩:=hfn
 have hcall:∀ W,(callFunc g (us++cs)).run prog W=.ok (.enter g (us++cs)) W:=fun W=>by
  have hname':¬ fn.name = "runtime.NumGoroutine" := by simpa using hf3
  cases hb:fn.body with
  | none=>simp[hb]at hf2
  | some _=>simp[callFunc,hf1,hname',hb]
 rw[hcall,Oper.upon_enter]
 refine h.mono ?_
 intro e w' hR
 obtain⟨hb,hT⟩:=hT e w' hR
 have hlt:=(Array.getElem?_eq_some_iff.1 hb).1
 rename_i K1 a1 K2 a2
 rcases hT with ⟨⟨v,rfl⟩,hT⟩|⟨n,rfl,hT⟩
 · have hc:w'.cell? ⟨w.heap.size,0,none⟩=some (.int .i64 0):=by simp[World.cell?,hb]
   have hz:w'.frozen? ⟨w.heap.size,0,none⟩=false:=frozen_of_row _ _ _ _ _ hb
   refine a2 _ _ ?_
   simp[wpList,Exit.then]
   refine a1 _ _ ?_
   go_wp2
   refine leaves_cons (f:=130) (args:=#[.pointer (some ⟨w.heap.size,0,none⟩)]) (by simp) (by simp[go_sem]) ?_
   refine (dd_idle ⟨w.heap.size,0,none⟩ _).mono ?_
   rintro e u' w'' ⟨rfl,rfl,rfl⟩
   simp[Leaves,settle,results,results82,go_sem,hc,hz]
   exact hT
 · simp only[Exit.then]
   have hc:∀ o,(w'.alloc o).cell? ⟨w.heap.size,0,none⟩=some (.int .i64 0):=fun o=>by
    simp only[World.cell?,znk _ _ _ hlt,hb];rfl
   have hz:∀ o,(w'.alloc o).frozen? ⟨w.heap.size,0,none⟩=false:=fun o=>frozen_of_row _ _ _ _ _ (by rw[znk _ _ _ hlt];exact hb)
   refine leaves_cons (f:=130) (args:=#[.pointer (some ⟨w.heap.size,0,none⟩)]) (by simp) (by simp[go_sem]) ?_
   refine (zhv ⟨w.heap.size,0,none⟩ 0 n [] _ hc hz).mono ?_
   rintro e u' w'' ⟨rfl,rfl,rfl⟩
   simp[Leaves,settle,results,results82,go_sem,hc,hz]
   exact hT
theorem yih (w:World) (a:Addr) (u:Value):(w.setCell a u).heap.size=w.heap.size:=by
 unfold World.setCell
 split<;>simp
theorem zh0 {g:FuncId} {first cap:List AV} {n:Int} (hp:Pure (.fn (.func g) first cap)) (hfn:∃ fn,prog.funcs[g]? = some fn∧fn.body.isSome=true∧(fn.name == "runtime.NumGoroutine")=false)
 (h:∀ (S:Nat→Prop) (w:World) (vs:Array Value),(∀ b,S b→b < w.heap.size)→vs.size=(first++cap).length→(∀ (i:Nat) p,(first++cap)[i]? = some p→VR (env0 S w) p (vs.getD i undef)) →
  Calls prog g vs w fun e w'=>((∃ v,e=.returned v)∧n=0∨e=.panicked [{ v:=vd n,recovered:=false }])∧Below w.heap.size w w') :
 AC prog 82 [.fn (.func g) first cap] (I n):=by
 refine⟨⟨_,func82,rfl,rfl⟩,zzi hp,zx1 _,fun S w vs hS hl hv=>?_⟩
 obtain⟨x,rfl⟩:∃ x,vs=#[x]:=⟨vs[0]'(by simp at hl;omega),by
  apply Array.ext
  · simpa using hl
  · intro i h1 h2
    have:i=0:=by simp at h2;omega
    subst this;rfl⟩
 have hx:=hv 0 _ rfl
 simp at hx
 cases hx with
 | fn _ _ _ us cs h1 h2 h3 h4 =>
  have hle:(env0 S w).Le (env0 S (w.alloc (.cells #[.int .i64 0] 51 (0,0)))):=⟨fun _ h=>h,fun b hb=>znk _ _ _ (hS b hb),fun _=>Nat.le_refl _,fun _ _=>rfl⟩
  have hsz:(w.alloc (.cells #[.int .i64 0] 51 (0,0))).heap.size=w.heap.size+1:=by simp
  have hcall:=h S (w.alloc (.cells #[.int .i64 0] 51 (0,0))) (us++cs) (fun b hb=>by have:=hS b hb;omega) (by simp[h1,h2]) fun i p hi=>by
   refine VR.mono hle ?_
   by_cases hi1:i < first.length
   · rw[List.getElem?_append_left hi1]at hi
     have:=h3 i p hi
     simpa [Array.getD_eq_getD_getElem?,Array.getElem?_append,show i < us.size by omega] using this
   · rw[List.getElem?_append_right (by omega)]at hi
     have:=h4 _ p hi
     simpa [Array.getD_eq_getD_getElem?,Array.getElem?_append,show ¬ i < us.size by omega,h1] using this
  refine zhy hfn hcall _ fun e w' ⟨he,hb⟩=>?_
  have hblk:w'.heap[w.heap.size]? = some (.cells #[.int .i64 0] 51 (0,0)):=by
   rw[hb.block _ (by omega)];exact heap_alloc_new _ _
  have hB:Below w.heap.size w w':=((Below.refl _ _).alloc (Nat.le_refl _) _).trans (hb.mono (by omega))
  refine⟨hblk,?_⟩
  rcases he with ⟨hv,rfl⟩|rfl
  · refine .inl ⟨hv,_,S,rfl,hB.setCell (Nat.le_refl _) _,fun _ h=>h,fun _ h=>.inl h,fun b hb'=>?_,.v _⟩
    rw[yih];have:=hS b hb';have:=hB.size;omega
  · refine .inr ⟨n,rfl,_,S,rfl,(hB.alloc hB.size _).setCell (Nat.le_refl _) _,fun _ h=>h,fun _ h=>.inl h,fun b hb'=>?_,.v _⟩
    rw[yih];have:=hS b hb';have:=hB.size;simp;omega
theorem zhx {g:FuncId} {first cap:List AV} {r:AV} (hp:Pure (.fn (.func g) first cap)) (h:AC prog g (first++cap) r):AC prog 82 [.fn (.func g) first cap] (I 0) :=
 zh0 hp h.fn fun S w vs hS hl hv=>(h.run S w vs hS hl hv).mono fun e w' ⟨v,S',he,hb,_⟩=>⟨.inl ⟨⟨v,he⟩,rfl⟩,hb⟩
theorem zh1 {g:FuncId} {first cap:List AV} {n:Int} (hp:Pure (.fn (.func g) first cap)) (h:PC prog g (first++cap) (vd n)):AC prog 82 [.fn (.func g) first cap] (I n) :=
 zh0 hp h.fn fun S w vs hS hl hv=>(h.run S w vs hS hl hv).mono fun e w' ⟨he,hb⟩=>⟨.inr he,hb⟩
end
def allOf (l:List (List EntD)) (e:EntD):Bool:=l.all fun s=>getOf s e.kind e.key==some e.id
theorem all_ac (l:List (List EntD)) (e:EntD):AC prog 210 [ykh l,ent e] (B (allOf l e)):=by
 refine AC.ob func210 ntmps210 results210 (zzj (zze _) (zyd _)) (zx0 _) fun w S'=>AWp.bound 0 rfl fun hlen=>AWp.of_vc [] ?_
 rw[yki]at hlen
 simp[go_sem]
 refine AWp.loop_vc [] (fun m s'=>∃ k:Nat,k≤l.length∧m=l.length - k∧s'.σ 3=.eptr (enc e) 0∧s'.σ 9=ykh l∧s'.σ 10=I l.length∧s'.σ 11=I k∧∀ (j:Nat) s,j < k→l[j]? = some s→getOf s e.kind e.key=some e.id) l.length ⟨0,by simp[go_sem]⟩ ?_
 rintro m s' ⟨k,hk,rfl,h3,h9,h10,h11,hyes⟩
 by_cases hlt:k < l.length
 · have bad:getOf l[k] e.kind e.key≠some e.id→allOf l e=false:=fun h=>zcb hlt (by simpa using h)
   simp[go_sem,h3,h9,h10,h11,hlt]
   refine cpu (zmy l[k] e.kind e.key) ?_
   cases hg:getOf l[k] e.kind e.key with
   | none =>
    simp[go_sem,h3,h9,h10,h11]
    refine PostR.ret ?_
    rw[bad (by rw[hg];simp)]
    simp[go_sem]
   | some id =>
    by_cases hid:id=e.id
    · simp[go_sem,h3,h9,h10,h11,hid,yro hlt hlen]
      exact⟨l.length - (k+1),by omega,k+1,by omega,rfl,rfl,zes hlt hyes (by rw[hg,hid])⟩
    · simp[go_sem,h3,h9,h10,h11,hid]
      refine PostR.ret ?_
      rw[bad (by rw[hg];simpa using hid)]
      simp[go_sem]
 · have ok:allOf l e=true:=all_true fun j s hj=>by simpa using hyes j s (by have:=(List.getElem?_eq_some_iff.1 hj).1;omega) hj
   simp[go_sem,h3,h9,h10,h11,hlt]
   refine PostR.ret ?_
   simp[go_sem,ok]
def idsS (a:EntD→Bool) (s:List EntD):List Int:=(s.filter fun e=>!a e).map (·.id)
def idsO (a:EntD→Bool) (l:List (List EntD)) (k:Nat):List Int:=(l.take k).flatMap (idsS a)
def sameO (a:EntD→Bool) (l:List (List EntD)) (k:Nat):List EntD:=if k=0 then [] else (l.getD 0 []).filter a
theorem znx (a:EntD→Bool) {l:List (List EntD)} {k:Nat} (h:k < l.length):idsO a l (k+1)=idsO a l k++idsS a l[k]:=by
 unfold idsO
 rw[List.take_succ_eq_append_getElem h,List.flatMap_append]
 simp
theorem znz (a:EntD→Bool) {s:List EntD} {q:Nat} (h:q < s.length):idsS a (s.take (q+1))=if a s[q]=true then idsS a (s.take q) else idsS a (s.take q)++[s[q].id]:=by
 unfold idsS
 rw[zkc _ _ _ h]
 cases ha:a s[q]<;>simp
def yjx (a:EntD→Bool) (l:List (List EntD)):AV:=.tup [ents (sameO a l l.length),ints (yjh (idsO a l l.length))]
theorem zxs (a:EntD→Bool) (l:List (List EntD)):PureR (yjx a l):=zxy (zye _) (zyr _) (zye _) (zyr _)
theorem zny (a:EntD→Bool) (s:List EntD):(idsS a s).length≤s.length:=by
 unfold idsS;rw[List.length_map];exact List.length_filter_le _ _
theorem split_ac (l:List (List EntD)) (hn:l.length≤1000) (hs:∀ s∈l,s.length≤1000):AC prog 143 [ykh l] (yjx (allOf l) l):=by
 refine AC.ob func143 ntmps143 results143 (zzi (zze _)) (zxs _ _) fun w S'=>AWp.of_vc [] ?_
 have hm:l.length≤maxLen:=by unfold maxLen;omega
 simp[go_sem]
 refine AWp.ownNilBox 4 33 62 3 (by simp[go_sem]) (by decide) ?_
 refine AWp.ownNilBox 5 27 3 1 (by simp[go_sem]) (by decide) ?_
 refine AWp.loop_vc [] (fun m s=>∃ k v w:Nat,k≤l.length∧m=l.length - k∧s.σ 1=.eptr [ykh l] 0∧s.σ 4=.rptr 4 1 0 0∧s.ver 4=1∧s.h 4=.box [.ref 33 v]∧s.ver 33=v∧s.h 33=.arr 62 3 ((sameO (allOf l) l k).map ent) ∧
  s.σ 5=.rptr 5 1 0 0∧s.ver 5=1∧s.h 5=.box [.ref 27 w]∧s.ver 27=w∧s.h 27=.arr 3 1 ((idsO (allOf l) l k).map I)∧s.σ 9=ykh l∧s.σ 10=I l.length∧s.σ 11=I k∧(idsO (allOf l) l k).length≤1000 * k∧(sameO (allOf l) l k).length≤1000) l.length ⟨0,1,1,by simp[go_sem,sameO,idsO]⟩ ?_
 rintro m s ⟨k,v,w',hk,rfl,h1,h4,v4,b4,v33,a33,h5,v5,b5,v27,a27,h9,h10,h11,hli,hls⟩
 by_cases hlt:k < l.length
 · have hsk:l[k].length≤1000:=hs _ (List.getElem_mem hlt)
   simp[go_sem,h1,h4,h5,h9,h10,h11,hlt]
   refine cpu (zij l[k]) ?_
   simp[go_sem,h1,h4,h5,h9,h10,h11,hlt]
   refine yfl (s:=l[k]) 19999 (by decide) (by simp[go_sem]) rfl (by simp) (by unfold maxLen;omega) (fun q s1=>∃ v w:Nat,s1.ver 4=1∧s1.h 4=.box [.ref 33 v]∧s1.ver 33=v∧s1.h 33=.arr 62 3 ((if k=0 then (l[k].take q).filter (allOf l) else sameO (allOf l) l k).map ent) ∧
    s1.ver 5=1∧s1.h 5=.box [.ref 27 w]∧s1.ver 27=w∧s1.h 27=.arr 3 1 ((idsO (allOf l) l k++idsS (allOf l) (l[k].take q)).map I)∧s1.ver 6=s.ver 6+1∧s1.h 6=.box [I k]) ?_ ⟨v,w',by by_cases hk0:k=0<;>simp[go_sem,v4,b4,v33,a33,v5,b5,v27,a27,idsS,sameO,hk0]⟩ ?_ ?_
   · rintro q s1 s2 ⟨v,w,g1,g2,g3,g4,g5,g6,g7,g8,g9,g10⟩ hσ hag
     have a4:=hag 4 (by decide) (by decide)
     have a33:=hag 33 (by decide) (by decide)
     have a5:=hag 5 (by decide) (by decide)
     have a27:=hag 27 (by decide) (by decide)
     have a6:=hag 6 (by decide) (by decide)
     exact⟨v,w,a4.1.trans g1,a4.2.trans g2,a33.1.trans g3,a33.2.trans g4,a5.1.trans g5,a5.2.trans g6,a27.1.trans g7,a27.2.trans g8,a6.1.trans g9,a6.2.trans g10⟩
   · rintro q hq s1 L r V e0 ⟨v,w,g1,g2,g3,g4,g5,g6,g7,g8,g9,g10⟩ hσ hV hR
     have hl1:=zny (allOf l) (l[k].take q)
     have hl2:(List.filter (allOf l) (l[k].take q)).length≤1000:=by
      have:=List.length_filter_le (allOf l) (l[k].take q)
      simp only[List.length_take]at this;omega
     simp only[List.length_take]at hl1
     have hids:=znz (allOf l) hq
     have hsm:=zkc (allOf l) _ _ hq
     refine AWp.of_vc [8,27,33] ?_
     simp[go_sem,hV,hR]
     intro e1
     refine AWp.of_vc [8,27,33] ?_
     simp[go_sem,hV,hR,h1]
     refine cpu (all_ac l l[k][q]) ?_
     cases ha:allOf l l[k][q] with
     | false =>
      rw[ha]at hids hsm
      simp at hids hsm
      simp[go_sem,hV,hR,h5,g1,g2,g3,g4,g5,g6,g7,g8,g9,g10,hids,hsm]
      omega
     | true =>
      rw[ha]at hids hsm
      simp at hids hsm
      have h6:True:=trivial
      by_cases hk0:k=0
      · subst hk0
        simp[go_sem,hV,hR,h4,g1,g2,g3,g4,g5,g6,g7,g8,g9,g10,hids,hsm]
        omega
      · have hk0':¬ (k:Int)=0:=by omega
        simp[go_sem,hV,hR,h4,g1,g2,g3,g4,g5,g6,g7,g8,g9,g10,hids,hsm,hk0,hk0']
   · rintro s1 ⟨v,w,g1,g2,g3,g4,g5,g6,g7,g8,g9,g10⟩ hσ
     rw[List.take_length]at g4 g8
     simp[go_sem,hσ,h1,h4,h5,h9,h10,h11,yro hlt hm]
     refine⟨l.length - (k+1),by omega,k+1,by omega,rfl,g1,v,g2,g3,?_,g5,w,g6,g7,?_,rfl,?_,?_⟩
     · rw[g4]
       congr 2
       by_cases hk0:k=0
       · subst hk0;simp[sameO,List.getD,hlt]
       · simp[sameO,hk0]
     · rw[g8,znx _ hlt]
     · rw[znx _ hlt,List.length_append]
       have:=zny (allOf l) l[k]
       omega
     · have h0:(l.getD 0 []).length≤1000:=by
        have hl0:0 < l.length:=by omega
        simp only[List.getD,List.getElem?_eq_getElem hl0,Option.getD_some]
        exact hs _ (List.getElem_mem hl0)
       unfold sameO
       rw[if_neg (by omega)]
       exact Nat.le_trans (List.length_filter_le _ _) h0
 · have hk':k=l.length:=by omega
   subst hk'
   simp[go_sem,h1,h4,h5,h9,h10,h11]
   refine AWp.freeze 33 ?_
   refine AWp.freeze 27 ?_
   refine da ?_
   simp[go_sem,h1,h4,h5,v4,b4,v33,a33,v5,b5,v27,a27]
   refine CalmThen.pure (zsw (idsO (allOf l) l l.length) (by omega)) (by simp[go_sem]) ?_
   simp[go_sem]
   refine PostR.ret ?_
   simp[go_sem,yjx,yjm]
def eventsOf (l:List Evt) (s:List EntD):List Evt:=s.filterMap fun e=>getE l e.id
theorem zjh (l:List Evt) {s:List EntD} {k:Nat} (h:k < s.length):eventsOf l (s.take (k+1))=eventsOf l (s.take k)++(getE l s[k].id).toList:=by
 unfold eventsOf
 rw[List.take_succ_eq_append_getElem h,List.filterMap_append]
 cases hg:getE l s[k].id<;>simp[hg]
theorem zjf (l:List Evt) (s:List EntD) (k:Nat):(eventsOf l (s.take k)).length≤k:=by
 have:=List.length_filterMap_le (fun e:EntD=>getE l e.id) (s.take k)
 simp only[List.length_take]at this
 unfold eventsOf;omega
theorem zw5 (l:List Evt):PureR (evs l):=zyk l
theorem zji (l:List Evt) (s:List EntD) (hn:s.length≤100000):AC prog 51 [evs l,ents s] (evs (eventsOf l s)):=by
 refine AC.ob func51 ntmps51 results51 (zzj (zyk _) (zye _)) (zw5 _) fun w S'=>AWp.of_vc [] ?_
 simp[go_sem]
 refine cpu (zij s) ?_
 simp[go_sem]
 refine AWp.ownNilBox 5 23 45 29 (by simp[go_sem]) (by decide) ?_
 refine yfl (s:=s) 19999 (by decide) (by simp[go_sem]) rfl (by simp) (by unfold maxLen;omega) (fun k s1=>∃ v:Nat,s1.ver 5=1∧s1.h 5=.box [.ref 23 v]∧s1.ver 23=v∧s1.h 23=.arr 45 29 ((eventsOf l (s.take k)).map ev)) ?_ ⟨1,by simp[go_sem,eventsOf]⟩ ?_ ?_
 · rintro k s1 s2 ⟨v,h1,h2,h3,h4⟩ hσ hag
   have a5:=hag 5 (by decide) (by decide)
   have a23:=hag 23 (by decide) (by decide)
   exact⟨v,a5.1.trans h1,a5.2.trans h2,a23.1.trans h3,a23.2.trans h4⟩
 · rintro k hk s1 L r V e0 ⟨v,h1,h2,h3,h4⟩ hσ hV hR
   have hl:=zjf l s k
   have hst:=zjh l hk
   refine AWp.of_vc [6,7,23] ?_
   simp[go_sem,hV,hR]
   intro e1
   refine AWp.of_vc [6,7,23] ?_
   simp[go_sem,hV,hR]
   refine cpu (yi1 l s[k].id) ?_
   cases hg:getE l s[k].id with
   | none =>
    rw[hg]at hst
    simp at hst
    simp[go_sem,hV,hR,h1,h2,h3,h4,hst]
   | some e =>
    rw[hg]at hst
    simp at hst
    simp[go_sem,hV,hR,h1,h2,h3,h4,hst]
    exact⟨by omega,by omega⟩
 · rintro s1 ⟨v,h1,h2,h3,h4⟩ hσ
   rw[List.take_length]at h4
   simp[go_sem,hσ,h1,h2,h3,h4]
   refine PostR.retW [23] ?_ (.refl _)
   simp[go_sem,hσ,h1,h2,h3,h4]
def zen (e:Evt) (n:Int):List Int:=e.prev.filter fun p=>!(p==n)
def zep (l:List Evt) (ids:List Int):List Int:=ids.flatMap fun n=>((getE l n).map fun e=>zen e n).getD []
def zna (l:List Int) (n:Int):Bool:=l.contains n
def headsOf (l:List Evt) (ids:List Int):List Int:=yjl (ids.filter fun n=>!zna (zep l ids) n)
theorem zeq {l:List Evt} {ids:List Int} {k:Nat} (h:k < ids.length):zep l (ids.take (k+1))=zep l (ids.take k)++((getE l ids[k]).map fun e=>zen e ids[k]).getD []:=by
 unfold zep
 rw[List.take_succ_eq_append_getElem h,List.flatMap_append];simp
theorem zeo {e:Evt} {n:Int} {q:Nat} (h:q < e.prev.length):((e.prev.take (q+1)).filter fun p=>!(p==n))=((e.prev.take q).filter fun p=>!(p==n))++if e.prev[q]=n then [] else [e.prev[q]]:=by
 rw[List.take_succ_eq_append_getElem h,List.filter_append]
 by_cases g:e.prev[q]=n<;>simp[g]
theorem FoundM.get {es:Array MapEntry} {L:List Int} (h:FoundM es L) (n:Int):(mget es n).getD (.bool false)=.bool (zna L n):=by
 rw[h.2]
 unfold zna
 by_cases g:n∈L
 · rw[if_pos g];simp[g]
 · rw[if_neg g];simp[g]
theorem zkd (p:Int→Bool) (l:List Int) (k:Nat) (h:k < l.length):(l.take (k+1)).filter p=(l.take k).filter p++if p l[k]=true then [l[k]] else []:=by
 rw[List.take_succ_eq_append_getElem h,List.filter_append]
 cases g:p l[k]<;>simp[g]
theorem zni (l:List Evt) (ids:List Int) (hl:Fit l) (hi:ids.length≤1000000):AC prog 91 [evs l,ints ids] (ints (headsOf l ids)):=by
 refine AC.ob func91 ntmps91 results91 (zzj (zyk _) (zyr _)) (zxe _) fun w S'=>AWp.of_vc [] ?_
 have hm:ids.length≤maxLen:=by unfold maxLen;omega
 simp[go_sem]
 refine cpu (zoh l) ?_
 simp[go_sem]
 refine AWp.loop_vc [] (fun m s=>∃ (k:Nat) (fs:Array MapEntry) (fc:Nat),m=ids.length - k∧k≤ids.length∧s.σ 0=evs l∧s.σ 1=ints ids∧s.σ 5=idxAV l∧s.σ 6=.ref 18 1∧s.σ 19=ints ids∧s.σ 20=I ids.length∧s.σ 21=I k∧s.ver 18=1∧s.h 18=.map fs fc∧FoundM fs (zep l (ids.take k))) ids.length ⟨0,#[],0,by simp[go_sem];exact FoundM.nil⟩ ?_
 rintro m s ⟨k,fs,fc,rfl,hk,h0,h1,h5,h6,h19,h20,h21,hv,hh,hF⟩
 by_cases hlt:k < ids.length
 · have hsu:=zeq (l:=l) hlt
   generalize zep l (ids.take k)=X at hF hsu
   rcases zn7 l ids[k] with ⟨hg,hm2⟩|⟨j,hj,hg,hm2⟩
   · rw[hg]at hsu
     simp[go_sem,h0,h1,h5,h6,h19,h20,h21,hv,hh,hlt,hm2,yro hlt hm]
     exact⟨ids.length - (k+1),by omega,k+1,rfl,by omega,rfl,by rw[hsu];simpa using hF⟩
   · rw[hg]at hsu
     have h40:=hl.prev l[j] (List.getElem_mem hj)
     have hpm:l[j].prev.length≤maxLen:=by unfold maxLen;omega
     generalize hE:l[j]=e at h40 hsu hpm
     have hE':l[j]? = some e:=by rw[List.getElem?_eq_getElem hj,hE]
     generalize hn:ids[k]=n at hsu hm2
     simp[go_sem,h0,h1,h5,h6,h19,h20,h21,hv,hh,hlt,hj,hm2,hn,hE,hE']
     refine AWp.loop_vc [] (fun m s=>∃ (q:Nat) (fs:Array MapEntry) (fc:Nat),m=e.prev.length - q∧q≤e.prev.length∧s.σ 0=evs l∧s.σ 1=ints ids∧s.σ 5=idxAV l∧s.σ 6=.ref 18 1∧s.σ 8=I n∧s.σ 19=ints ids∧s.σ 20=I ids.length∧s.σ 21=I k∧s.σ 37=ints e.prev∧s.σ 38=I e.prev.length∧s.σ 39=I q∧s.ver 18=1∧s.h 18=.map fs fc∧FoundM fs (X++(e.prev.take q).filter fun p=>!(p==n))) e.prev.length ⟨0,fs,fc,by simp[go_sem,h0,h1,h5,h6,h19,h20,h21,hv,hh,hF]⟩ ?_
     clear h0 h1 h5 h6 h19 h20 h21 hv hh hF
     rintro m s ⟨q,fs,fc,rfl,hq,h0,h1,h5,h6,h8,h19,h20,h21,h37,h38,h39,hv,hh,hF⟩
     by_cases hlq:q < e.prev.length
     · have hsq:=zeo (n:=n) hlq
       have hf1:=hF.1
       generalize (e.prev.take q).filter (fun p=>!(p==n))=Y at hF hsq
       by_cases g:e.prev[q]=n
       · rw[if_pos g]at hsq
         simp[go_sem,h0,h1,h5,h6,h8,h19,h20,h21,h37,h38,h39,hv,hh,hlq,g,yro hlq hpm]
         exact⟨e.prev.length - (q+1),by omega,q+1,rfl,by omega,rfl,by rw[hsq];simpa using hF⟩
       · rw[if_neg g]at hsq
         have hF':=hF.add fc e.prev[q]
         simp[go_sem,h0,h1,h5,h6,h8,h19,h20,h21,h37,h38,h39,hv,hh,hlq,g,hf1,yro hlq hpm]
         exact⟨e.prev.length - (q+1),by omega,q+1,rfl,by omega,rfl,by rw[hsq,← List.append_assoc];exact hF'⟩
     · rw[List.take_of_length_le (by omega)]at hF
       simp[go_sem,h0,h1,h5,h6,h8,h19,h20,h21,h37,h38,h39,hv,hh,hlq,yro hlt hm]
       exact⟨ids.length - (k+1),by omega,k+1,rfl,by omega,rfl,by rw[hsu];exact hF⟩
 · rw[List.take_of_length_le (by omega)]at hF
   generalize hX:zep l ids=X at hF
   have hf1:=hF.1
   simp[go_sem,h0,h1,h5,h6,h19,h20,h21,hv,hh,hlt]
   refine AWp.ownNil 13 3 1 (by simp[go_sem]) ?_
   refine AWp.loop_vc [] (fun m s=>∃ (k v:Nat),m=ids.length - k∧k≤ids.length∧s.σ 6=.ref 18 1∧s.σ 50=ints ids∧s.σ 51=I ids.length∧s.σ 52=I k∧s.ver 18=1∧s.h 18=.map fs fc∧s.σ 13=.ref 13 v∧s.ver 13=v∧s.h 13=.arr 3 1 (((ids.take k).filter fun n=>!zna X n).map I)) ids.length ⟨0,s.ver 13+1,by simp[go_sem,h1,h6,hv,hh]⟩ ?_
   clear h0 h1 h5 h6 h19 h20 h21 hv hh hlt hk k
   rintro m s ⟨k,v,rfl,hk,h6,h50,h51,h52,hv18,hh18,h13,hv,hh⟩
   by_cases hlt:k < ids.length
   · have hsu:=zkd (fun n=>!zna X n) ids k hlt
     have hfl:((ids.take k).filter fun n=>!zna X n).length≤k:=by
      have:=List.length_filter_le (fun n=>!zna X n) (ids.take k)
      rw[List.length_take]at this;omega
     generalize (ids.take k).filter (fun n=>!zna X n)=Y at hh hsu hfl
     have hget:=hF.get ids[k]
     cases hc:zna X ids[k] with
     | true =>
      rw[hc]at hget hsu
      simp[go_sem,h6,h50,h51,h52,hv18,hh18,h13,hv,hh,hlt,hf1,hget,yro hlt hm]
      exact⟨ids.length - (k+1),by omega,k+1,rfl,by omega,rfl,by rw[hsu];simp⟩
     | false =>
      rw[hc]at hget hsu
      simp[go_sem,h6,h50,h51,h52,hv18,hh18,h13,hv,hh,hlt,hf1,hget,yro hlt hm]
      exact⟨⟨by omega,by omega⟩,ids.length - (k+1),by omega,k+1,rfl,by omega,rfl,by rw[hsu];simp[I]⟩
   · rw[List.take_of_length_le (by omega)]at hh
     have hfl:=List.length_filter_le (fun n=>!zna X n) ids
     have hres:headsOf l ids=yjl (ids.filter fun n=>!zna X n):=by unfold headsOf;rw[hX]
     generalize ids.filter (fun n=>!zna X n)=Y at hh hfl hres
     simp[go_sem,h6,h50,h51,h52,hv18,hh18,h13,hv,hh,hlt]
     refine CallSem.freeze 13 ?_
     simp[go_sem,h6,h50,h51,h52,hv18,hh18,h13,hv,hh,hlt]
     refine cpu (zsw Y (by omega)) ?_
     simp[go_sem]
     refine PostR.ret ?_
     simp[go_sem,hres]
end Go.Proofs.YthjmjdleecmaeaaGreat
