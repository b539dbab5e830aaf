/- Several texts of the proof in one: G1, G2, Ts, S1, S2, S3. No condition. -/
import Derived.Test.YthjmjdleecmaeaaGreatL23
set_option linter.unusedSimpArgs false
set_option linter.unusedVariables false
set_option maxHeartbeats 4000000
set_option maxRecDepth 8000
namespace Go.Proofs.YthjmjdleecmaeaaGreat
open Go Go.Abs Go.Proofs.Tryz
def zn0:List Evt→Nat→Array MapEntry×Nat
 | [],_=>(#[],0)
 | e::l,i=>mput (zn0 l (i+1)).1 (zn0 l (i+1)).2 e.id (.int .i64 i)
theorem zn2:∀ (l:List Evt) (i:Nat),intM (zn0 l i).1=true
 | [],_=>rfl
 | e::l,i=>yct _ _ _ _ (zn2 l (i+1))
theorem zn1 (n:Int):∀ (l:List Evt) (i:Nat),mget (zn0 l i).1 n=(l.findIdx? fun e=>e.id==n).map fun k=>.int .i64 ((i+k:Nat):Int)
 | [],_=>rfl
 | e::l,i=>by
  show mget (mput _ _ _ _).1 n=_
  rw[ycs,List.findIdx?_cons,zn1 n l (i+1)]
  by_cases h:e.id=n
  · simp[h]
  · simp[h,Function.comp_def,Nat.add_comm,Nat.add_left_comm]
def idxM (l:List Evt):Array MapEntry:=(zn0 l 0).1
def idxC (l:List Evt):Nat:=(zn0 l 0).2
def idxAV (l:List Evt):AV:=.mapv (idxM l) (idxC l)
theorem idxM_int (l:List Evt):intM (idxM l)=true:=zn2 l 0
theorem zyo (l:List Evt):Pure (idxAV l):=zy2 _ _
theorem zn7 (l:List Evt) (n:Int):(getE l n=none∧mget (idxM l) n=none)∨∃ k,∃ hk:k < l.length,getE l n=some l[k]∧mget (idxM l) n=some (.int .i64 k):=by
 have h:=zn1 n l 0
 unfold idxM getE
 rw[h]
 cases hf:l.findIdx? fun e=>e.id==n with
 | none =>
  left
  rw[List.findIdx?_eq_none_iff]at hf
  refine⟨?_,rfl⟩
  rw[List.find?_eq_none]
  intro e he;simpa using hf e he
 | some k =>
  right
  rw[List.findIdx?_eq_some_iff_getElem]at hf
  obtain⟨hk,h1,h2⟩:=hf
  refine⟨k,hk,?_,by simp⟩
  rw[List.find?_eq_some_iff_getElem]
  exact⟨h1,k,hk,rfl,fun j hj=>by simpa using h2 j hj⟩
attribute [go_sem] idxAV idxM_int
theorem zoh (l:List Evt):AC prog 57 [evs l] (idxAV l):=by
 refine AC.ob func57 ntmps57 results57 (zzi (zyk _)) (zyo _) fun w S'=>AWp.bound 0 rfl fun hlen=>AWp.of_vc [] ?_
 rw[zjj]at hlen
 simp[go_sem]
 refine AWp.loop_vc [] (fun m s=>∃ q v:Nat,q≤l.length∧m=q∧s.σ 0=evs l∧s.σ 4=I ((q:Int) - 1)∧s.σ 3=.ref 7 v∧s.ver 7=v∧s.h 7=.map (zn0 (l.drop q) q).1 (zn0 (l.drop q) q).2) l.length ⟨l.length,1,by simp[go_sem,yrn hlen,zn0]⟩ ?_
 rintro m s ⟨q,v,hq,hmq,h0,h4,h3,hv,hh⟩
 cases q with
 | zero =>
  have h4':s.σ 4=I (-1):=by rw[h4];rfl
  simp[go_sem,h0,h4',h3,hv,hh]
  refine PostR.retW [7] ?_ (.refl _)
  simp[go_sem,h3,hv,hh,idxAV,idxM,idxC]
 | succ q =>
  have h4':s.σ 4=I (q:Int):=by rw[h4];congr 2;omega
  have hd:zn0 (l.drop q) q=mput (zn0 (l.drop (q+1)) (q+1)).1 (zn0 (l.drop (q+1)) (q+1)).2 l[q].id (.int .i64 q):=by
   rw[List.drop_eq_getElem_cons (by omega:q < l.length)];rfl
  have hi:=zn2 (l.drop (q+1)) (q+1)
  have hlt:q < l.length:=by omega
  have hw:IntKind.i64.wrap ((q:Int) - 1)=(q:Int) - 1:=yrn (by omega)
  simp[go_sem,h0,h4',h3,hv,hh,hi,hlt,hw]
  exact⟨q,by omega,q,by omega,rfl,rfl,by rw[hd];exact⟨rfl,rfl⟩⟩
def zpu (l:List Evt) (n:Int):Bool:=(getE l n).isSome
def zb9 (l:List Evt) (r:List Int):Bool:=r.all (zpu l)
def zgu (l:List Evt):Bool:=l.all fun e=>zb9 l e.prev&&zb9 l e.auth
theorem all_take {α:Type} {p:α→Bool} {l:List α} {k:Nat} (h:k < l.length):(l.take (k+1)).all p=((l.take k).all p&&p l[k]):=by
 rw[List.take_succ_eq_append_getElem h,List.all_append];simp
theorem zcd {α:Type} {p:α→Bool} {l:List α} {k:Nat} (h:k < l.length) (hp:p l[k]=false):l.all p=false:=List.all_eq_false.2 ⟨l[k],List.getElem_mem h,by simp[hp]⟩
def AllUp {α:Type} (p:α→Bool) (l:List α) (k:Nat):Prop:=(l.take k).all p=true
theorem AllUp.zero {α:Type} (p:α→Bool) (l:List α):AllUp p l 0:=rfl
theorem AllUp.succ {α:Type} {p:α→Bool} {l:List α} {k:Nat} (h:k < l.length) (h1:AllUp p l k) (hp:p l[k]=true):AllUp p l (k+1):=by
 unfold AllUp at *;rw[all_take h,h1,hp];rfl
theorem AllUp.full {α:Type} {p:α→Bool} {l:List α} {k:Nat} (h:¬ k < l.length) (h1:AllUp p l k):l.all p=true:=by
 unfold AllUp at *;rw[List.take_of_length_le (by omega)]at h1;exact h1
theorem zyp (l:List Evt):Pure (.eptr [idxAV l] 0):=zyf fun c h=>by simp only[List.mem_singleton]at h;subst h;exact zyo _
theorem zgt (l:List Evt) (r:List Int):AC prog 95 [ints r,.eptr [idxAV l] 0] (B (zb9 l r)):=by
 refine AC.ob func95 ntmps95 results95 (zzj (zyr _) (zyp _)) (zx0 _) fun w S'=>AWp.bound 0 rfl fun hlen=>AWp.of_vc [] ?_
 rw[zop]at hlen
 simp[go_sem]
 refine AWp.loop_vc [] (fun m s=>∃ k:Nat,k≤r.length∧m=r.length - k∧s.σ 8=ints r∧s.σ 1=.eptr [idxAV l] 0∧s.σ 9=I r.length∧s.σ 10=I k∧AllUp (zpu l) r k) r.length ⟨0,by simp[go_sem,AllUp.zero]⟩ ?_
 rintro m s ⟨k,hk,rfl,h8,h1,h9,h10,hno⟩
 by_cases hlt:k < r.length
 · rcases zn7 l r[k] with ⟨hg,hm⟩|⟨j,hj,hg,hm⟩
   · have hb:zb9 l r=false:=zcd hlt (by unfold zpu;rw[hg];rfl)
     simp[go_sem,h8,h1,h9,h10,hlt,hm]
     refine PostR.ret ?_
     simp[go_sem,hb]
   · have hkn:zpu l r[k]=true:=by unfold zpu;rw[hg];rfl
     simp[go_sem,h8,h1,h9,h10,hlt,hm,yro hlt hlen]
     exact⟨r.length - (k+1),by omega,k+1,by omega,rfl,rfl,hno.succ hlt hkn⟩
 · have hb:zb9 l r=true:=hno.full hlt
   simp[go_sem,h8,h1,h9,h10,hlt]
   refine PostR.ret ?_
   simp[go_sem,hb]
theorem zgv (l:List Evt):AC prog 56 [evs l] (B (zgu l)):=by
 refine AC.ob func56 ntmps56 results56 (zzi (zyk _)) (zx0 _) fun w S'=>AWp.bound 0 rfl fun hlen=>AWp.of_vc [] ?_
 rw[zjj]at hlen
 simp[go_sem]
 refine cpu (zoh l) ?_
 simp[go_sem]
 refine AWp.freeze 3 ?_
 refine AWp.loop_vc [] (fun m s=>∃ k:Nat,k≤l.length∧m=l.length - k∧s.σ 0=evs l∧s.σ 4=.fn (.func 95) [] [.eptr [idxAV l] 0]∧s.σ 10=I l.length∧s.σ 11=I k∧AllUp (fun e=>zb9 l e.prev&&zb9 l e.auth) l k) l.length ⟨0,by simp[go_sem,AllUp.zero]⟩ ?_
 rintro m s ⟨k,hk,rfl,h0,h4,h10,h11,hno⟩
 by_cases hlt:k < l.length
 · simp[go_sem,h0,h4,h10,h11,hlt]
   refine cpu (zgt l l[k].prev) ?_
   cases hp:zb9 l l[k].prev with
   | false =>
    have hb:zgu l=false:=zcd hlt (by rw[hp];rfl)
    simp[go_sem,h0,h4,h10,h11,hlt]
    refine PostR.ret ?_
    simp[go_sem,hb]
   | true =>
    simp[go_sem,h0,h4,h10,h11,hlt]
    refine cpu (zgt l l[k].auth) ?_
    cases hq:zb9 l l[k].auth with
    | false =>
     have hb:zgu l=false:=zcd hlt (by rw[hp,hq];rfl)
     simp[go_sem,h0,h4,h10,h11,hlt]
     refine PostR.ret ?_
     simp[go_sem,hb]
    | true =>
     simp[go_sem,h0,h4,h10,h11,hlt,yro hlt hlen]
     exact⟨l.length - (k+1),by omega,k+1,by omega,rfl,rfl,hno.succ hlt (by rw[hp,hq];rfl)⟩
 · have hb:zgu l=true:=hno.full hlt
   simp[go_sem,h0,h4,h10,h11,hlt]
   refine PostR.ret ?_
   simp[go_sem,hb]
def yf0 (b:Bool) (e:Evt):List Int:=if b=true then e.auth else e.prev
inductive Reach (l:List Evt) (b:Bool) (fr:List Int):Int→Prop
 | start {n:Int}:n∈fr→zpu l n=true→Reach l b fr n
 | step {m n:Int} {e:Evt}:Reach l b fr m→getE l m=some e→n∈yf0 b e→zpu l n=true→Reach l b fr n
theorem Reach.known {l:List Evt} {b:Bool} {fr:List Int} {n:Int} (h:Reach l b fr n):zpu l n=true:=by cases h<;>assumption
theorem zp0 {l:List Evt} {n:Int} (h:zpu l n=true):n∈l.map (·.id):=by
 unfold zpu getE at h
 obtain⟨e,he⟩:=Option.isSome_iff_exists.1 h
 exact List.mem_map.2 ⟨e,List.mem_of_find?_eq_some he,by simpa using List.find?_some he⟩
open Classical in
noncomputable def reachOf (l:List Evt) (b:Bool) (fr:List Int):List Int:=yjh ((l.map (·.id)).filter fun n=>decide (Reach l b fr n))
theorem yfp (l:List Evt) (b:Bool) (fr:List Int):(reachOf l b fr).Pairwise (· < ·):=(yjk _).1
theorem mem_reachOf {l:List Evt} {b:Bool} {fr:List Int} {n:Int}:n∈reachOf l b fr↔Reach l b fr n:=by
 unfold reachOf
 rw[(yjk _).2,List.mem_filter]
 exact⟨fun h=>by simpa using h.2,fun h=>⟨zp0 h.known,by simpa using h⟩⟩
theorem zsp:∀ {a b:List Int},a.Nodup→(∀ x∈a,x∈b)→a.length≤b.length
 | [],b,_,_=>Nat.zero_le _
 | x::a,b,h,hs=>by
  rw[List.nodup_cons]at h
  have hx:=hs x (List.mem_cons_self ..)
  have ih:=zsp (a:=a) (b:=b.erase x) h.2 fun y hy=>(List.mem_erase_of_ne fun he=>h.1 (by rw[← he];exact hy)).2 (hs y (List.mem_cons_of_mem _ hy))
  rw[List.length_erase_of_mem hx]at ih
  have:0 < b.length:=List.length_pos_of_mem hx
  simp only[List.length_cons];omega
theorem yfo (l:List Evt) (b:Bool) (fr:List Int):(reachOf l b fr).length≤l.length:=by
 have:=zsp (a:=reachOf l b fr) (b:=l.map (·.id)) ((yfp l b fr).imp fun h=>Int.ne_of_lt h) fun x hx=>zp0 (mem_reachOf.1 hx).known
 simpa using this
structure RInv (l:List Evt) (b:Bool) (fr next:List Int) (k:Nat) (out t:List Int) (o0:Nat):Prop where
 nd:out.Nodup
 mem:∀ n∈out,Reach l b fr n
 more:∀ n∈t,zpu l n=true→Reach l b fr n
 nextR:∀ n∈next,zpu l n=true→Reach l b fr n
 start:∀ n∈fr,zpu l n=true→n∈out∨n∈next.drop k
 closed:∀ m∈out,∀ e,getE l m=some e→∀ n∈yf0 b e,zpu l n=true→n∈out∨n∈next.drop k∨n∈t
 grew:t≠[]→o0 < out.length
 mono:o0≤out.length
 short:t.length≤40 * out.length
section
variable {l:List Evt} {b:Bool} {fr next out t:List Int} {k o0:Nat}
theorem RInv.first:RInv l b fr fr 0 [] [] 0 :=
 ⟨List.nodup_nil,(fun _ h=>(by cases h)),(fun _ h=>(by cases h)),(fun _ h hk=>.start h hk),(fun _ h _=>.inr h),(fun _ h=>(by cases h)),(fun h=>absurd rfl h),Nat.le_refl _,Nat.le_refl _⟩
theorem RInv.len (h:RInv l b fr next k out t o0):out.length≤l.length:=by
 have:=zsp (b:=l.map (·.id)) h.nd fun x hx=>zp0 (h.mem x hx).known
 simpa using this
theorem RInv.skip (h:RInv l b fr next k out t o0) (hk:k < next.length) (hno:zpu l next[k]=true→next[k]∈out):RInv l b fr next (k+1) out t o0:=by
 have hd:next.drop k=next[k]::next.drop (k+1):=List.drop_eq_getElem_cons hk
 refine⟨h.nd,h.mem,h.more,h.nextR,fun n hn hkn=>?_,fun m hm e he n hn hkn=>?_,h.grew,h.mono,h.short⟩
 · rcases h.start n hn hkn with g|g
   · exact .inl g
   · rw[hd]at g
     rcases List.mem_cons.1 g with rfl|g
     · exact .inl (hno hkn)
     · exact .inr g
 · rcases h.closed m hm e he n hn hkn with g|g|g
   · exact .inl g
   · rw[hd]at g
     rcases List.mem_cons.1 g with rfl|g
     · exact .inl (hno hkn)
     · exact .inr (.inl g)
   · exact .inr (.inr g)
theorem RInv.add (h:RInv l b fr next k out t o0) (hk:k < next.length) {e:Evt} (hg:getE l next[k]=some e) (hn:next[k]∉out) (h40:(yf0 b e).length≤40):RInv l b fr next (k+1) (out++[next[k]]) (t++yf0 b e) o0:=by
 have hd:next.drop k=next[k]::next.drop (k+1):=List.drop_eq_getElem_cons hk
 have hkn:zpu l next[k]=true:=by unfold zpu;rw[hg];rfl
 have hR:=h.nextR _ (List.getElem_mem hk) hkn
 refine⟨?_,?_,?_,h.nextR,?_,?_,?_,?_,?_⟩
 · rw[List.nodup_append]
   refine⟨h.nd,by simp,fun a ha c hc=>?_⟩
   simp only[List.mem_singleton]at hc
   subst hc;exact fun he=>hn (he ▸ ha)
 · intro n hm
   rcases List.mem_append.1 hm with hm|hm
   · exact h.mem n hm
   · simp only[List.mem_singleton]at hm;subst hm;exact hR
 · intro n hm hkn2
   rcases List.mem_append.1 hm with hm|hm
   · exact h.more n hm hkn2
   · exact .step hR hg hm hkn2
 · intro n hm hkn2
   rcases h.start n hm hkn2 with g|g
   · exact .inl (List.mem_append_left _ g)
   · rw[hd]at g
     rcases List.mem_cons.1 g with rfl|g
     · exact .inl (by simp)
     · exact .inr g
 · intro m hm e2 he2 n hn2 hkn2
   rcases List.mem_append.1 hm with hm|hm
   · rcases h.closed m hm e2 he2 n hn2 hkn2 with g|g|g
     · exact .inl (List.mem_append_left _ g)
     · rw[hd]at g
       rcases List.mem_cons.1 g with rfl|g
       · exact .inl (by simp)
       · exact .inr (.inl g)
     · exact .inr (.inr (List.mem_append_left _ g))
   · simp only[List.mem_singleton]at hm;subst hm
     rw[hg]at he2;cases he2
     exact .inr (.inr (List.mem_append_right _ hn2))
 · intro _;have:=h.mono;simp only[List.length_append,List.length_cons,List.length_nil];omega
 · have:=h.mono;simp only[List.length_append];omega
 · have:=h.short;simp only[List.length_append,List.length_cons,List.length_nil];omega
theorem RInv.turn (h:RInv l b fr next k out t o0) (hk:¬ k < next.length):RInv l b fr t 0 out [] out.length:=by
 have hd:next.drop k=[]:=List.drop_eq_nil_of_le (by omega)
 refine⟨h.nd,h.mem,fun _ h=>(by cases h),h.more,fun n hn hkn=>?_,fun m hm e he n hn hkn=>?_,fun h=>absurd rfl h,Nat.le_refl _,Nat.zero_le _⟩
 · rcases h.start n hn hkn with g|g
   · exact .inl g
   · rw[hd]at g;cases g
 · rcases h.closed m hm e he n hn hkn with g|g|g
   · exact .inl g
   · rw[hd]at g;cases g
   · exact .inr (.inl g)
theorem RInv.mem_iff (h:RInv l b fr [] 0 out [] o0) (n:Int):n∈out↔Reach l b fr n:=by
 refine⟨h.mem n,fun hr=>?_⟩
 induction hr with
 | start hn hkn=>exact (h.start _ hn hkn).elim id fun g=>by cases g
 | step _ hg hn hkn ih =>
  rcases h.closed _ ih _ hg _ hn hkn with g|g|g
  · exact g
  · cases g
  · cases g
theorem RInv.result (h:RInv l b fr [] 0 out [] o0):yjl out=reachOf l b fr :=
 yk0 (yjo out).1 (yfp l b fr) fun x=>by rw[(yjo out).2,h.mem_iff,mem_reachOf]
def rmeas (l:List Evt) (out next:List Int):Nat:=2 * (l.length - out.length)+(if next=[] then 0 else 1)
theorem RInv.less {out0:List Int} (h:RInv l b fr next k out t out0.length) (hne:next≠[]):rmeas l out t < rmeas l out0 next:=by
 have h1:=h.mono
 have h2:=h.len
 unfold rmeas
 rw[if_neg hne]
 by_cases g:t=[]
 · rw[if_pos g];omega
 · have:=h.grew g;rw[if_neg g];omega
end
def FoundM (es:Array MapEntry) (out:List Int):Prop:=intM es=true∧∀ n,mget es n=if n∈out then some (.bool true) else none
def LevelM (es:Array MapEntry) (out:List Int):Prop:=intM es=true∧∀ n,n∉out→mget es n=none
theorem FoundM.nil:FoundM #[] []:=⟨rfl,fun n=>rfl⟩
theorem LevelM.nil (out:List Int):LevelM #[] out:=⟨rfl,fun n _=>rfl⟩
theorem FoundM.add {es:Array MapEntry} {out:List Int} (h:FoundM es out) (clk:Nat) (n:Int):FoundM (mput es clk n (.bool true)).1 (out++[n]):=by
 refine⟨yct _ _ _ _ h.1,fun m=>?_⟩
 rw[ycs,h.2]
 by_cases g:n=m
 · subst g;simp
 · have:¬ m=n:=fun h=>g h.symm
   rw[if_neg g]
   simp only[List.mem_append,List.mem_singleton,this,or_false]
theorem LevelM.add {es:Array MapEntry} {out:List Int} (h:LevelM es out) (clk:Nat) (n:Int) (v:Value):LevelM (mput es clk n v).1 (out++[n]):=by
 refine⟨yct _ _ _ _ h.1,fun m hm=>?_⟩
 simp only[List.mem_append,List.mem_singleton,not_or]at hm
 rw[ycs,if_neg (fun g=>hm.2 g.symm),h.2 m hm.1]
theorem yfq (l:List Evt) (fr:List Int) (f:FuncId) (b:Bool) (hf:∀ e,AC prog f [ev e] (ints (yf0 b e))) (hl:l.length≤1000) (hfr:fr.length≤1000000000) (h40:∀ e∈l,(yf0 b e).length≤40):AC prog 246 [evs l,ints fr,.fn (.func f) [] []] (ints (reachOf l b fr)):=by
 refine AC.ob func246 ntmps246 results246 (zzk (zyk _) (zyr _) (zym (fun _ h=>by cases h) (fun _ h=>by cases h))) (zxe _) fun w S'=>AWp.bound 1 rfl fun hlen=>AWp.of_vc [] ?_
 rw[zop]at hlen
 simp[go_sem]
 refine cpu (zoh l) ?_
 simp[go_sem]
 refine AWp.ownNil 10 3 1 (by simp[go_sem]) ?_
 refine AWp.loop_vcF [] [12] (fun m s=>∃ (out next:List Int) (v:Nat) (fs:Array MapEntry) (fc:Nat) (ls:Array MapEntry) (lc:Nat),m=rmeas l out next∧s.σ 0=evs l∧s.σ 2=.fn (.func f) [] []∧s.σ 7=idxAV l∧s.σ 8=.ref 19 1∧s.σ 9=.ref 20 1∧s.σ 11=ints next∧s.σ 10=.ref 10 v ∧
  s.ver 10=v∧s.ver 19=1∧s.ver 20=1∧s.h 10=.arr 3 1 (out.map I)∧s.h 19=.map fs fc∧s.h 20=.map ls lc∧FoundM fs out∧LevelM ls out∧next.length≤1000000000∧RInv l b fr next 0 out [] out.length) (rmeas l [] fr) ⟨[],fr,1,#[],0,#[],0,by simp[go_sem,FoundM.nil,LevelM.nil,RInv.first,hfr]⟩ ?_
 rintro m s ⟨out,next,v,fs,fc,ls,lc,hm,h0,h2,h7,h8,h9,h11,h10,hv,hv19,hv20,hh,hh19,hh20,hF,hL,hnx,hR⟩
 by_cases hn:next=[]
 · subst hn
   have hol:=hR.len
   simp[go_sem,h0,h2,h7,h8,h9,h11,h10,hv,hv19,hv20,hh,hh19,hh20]
   refine CallSem.freeze 10 ?_
   simp[go_sem,h0,h2,h7,h8,h9,h11,h10,hv,hv19,hv20,hh,hh19,hh20]
   refine cpu (zsw out (by omega)) ?_
   simp[go_sem]
   refine PostR.ret ?_
   simp[go_sem,hR.result]
 · have hpos:0 < next.length:=List.length_pos_iff.2 hn
   have hnm:next.length≤maxLen:=by unfold maxLen;omega
   simp[go_sem,h0,h2,h7,h8,h9,h11,h10,hv,hv19,hv20,hh,hh19,hh20,hpos]
   refine AWp.ownNil 12 3 1 (by simp[go_sem]) ?_
   refine AWp.loop_vc [] (fun m s=>∃ (k:Nat) (o t:List Int) (v u:Nat) (fs:Array MapEntry) (fc:Nat) (ls:Array MapEntry) (lc:Nat),m=next.length - k∧k≤next.length∧s.σ 0=evs l∧s.σ 2=.fn (.func f) [] []∧s.σ 7=idxAV l∧s.σ 8=.ref 19 1∧s.σ 9=.ref 20 1∧s.σ 10=.ref 10 v∧s.σ 12=.ref 12 u∧s.σ 26=ints next∧s.σ 27=I next.length∧s.σ 28=I k ∧
    s.ver 10=v∧s.ver 12=u∧s.ver 19=1∧s.ver 20=1∧s.h 10=.arr 3 1 (o.map I)∧s.h 12=.arr 3 1 (t.map I)∧s.h 19=.map fs fc∧s.h 20=.map ls lc∧FoundM fs o∧LevelM ls o∧RInv l b fr next k o t out.length) next.length ⟨0,out,[],v,s.ver 12+1,fs,fc,#[],lc,by simp[go_sem,h0,h2,h7,h8,h9,h10,hv,hv19,hv20,hh,hh19,hF,LevelM.nil,hR]⟩ ?_
   subst hm
   clear h0 h2 h7 h8 h9 h11 h10 hv hv19 hv20 hh hh19 hh20 hF hL fs fc ls lc v hR
   rintro m s ⟨k,o,t,v,u,fs,fc,ls,lc,rfl,hk,h0,h2,h7,h8,h9,h10,h12,h26,h27,h28,hv,hu,hv19,hv20,hh,hhu,hh19,hh20,hF,hL,hR⟩
   have hol:=hR.len
   have htl:=hR.short
   by_cases hlt:k < next.length
   · rcases zn7 l next[k] with ⟨hg,hm⟩|⟨j,hj,hg,hm⟩
     · simp[go_sem,h0,h2,h7,h8,h9,h10,h12,h26,h27,h28,hv,hu,hv19,hv20,hh,hhu,hh19,hh20,hlt,hm,yro hlt hnm]
       exact⟨next.length - (k+1),by omega,k+1,rfl,by omega,rfl,o,rfl,t,rfl,hF,hL,hR.skip hlt (fun h=>by unfold zpu at h;rw[hg]at h;cases h)⟩
     · by_cases hin:next[k]∈o
       · have hf1:mget fs next[k]=some (.bool true):=by rw[hF.2,if_pos hin]
         have hf2:=hF.1
         simp[go_sem,h0,h2,h7,h8,h9,h10,h12,h26,h27,h28,hv,hu,hv19,hv20,hh,hhu,hh19,hh20,hlt,hm,hf1,hf2,yro hlt hnm]
         exact⟨next.length - (k+1),by omega,k+1,rfl,by omega,rfl,o,rfl,t,rfl,hF,hL,hR.skip hlt (fun _=>hin)⟩
       · have hf1:mget fs next[k]=none:=by rw[hF.2,if_neg hin]
         have hf2:=hF.1
         have hl1:mget ls next[k]=none:=hL.2 _ hin
         have hl2:=hL.1
         have hr40:=h40 l[j] (List.getElem_mem hj)
         have hadd:=hR.add hlt hg hin hr40
         have hF':=hF.add fc next[k]
         have hL':=hL.add lc next[k] (.bool true)
         have hal:=hadd.len
         have hat:=hadd.short
         simp only[List.length_append,List.length_cons,List.length_nil]at hal hat
         simp[go_sem,h0,h2,h7,h8,h9,h10,h12,h26,h27,h28,hv,hu,hv19,hv20,hh,hhu,hh19,hh20,hlt,hj,hm,hf1,hf2,hl1,hl2,yro hlt hnm]
         refine⟨by omega,?_⟩
         refine cpu (hf l[j]) ?_
         simp[go_sem,h0,h2,h7,h8,h9,h10,h12,h26,h27,h28,hv,hu,hv19,hv20,hh,hhu,hh19,hh20,hlt,hj,hm,hf1,hf2,hl1,hl2,yro hlt hnm]
         exact⟨⟨by omega,by omega⟩,next.length - (k+1),by omega,k+1,rfl,by omega,rfl,o++[next[k]],by simp[I],t++yf0 b l[j],by simp,hF',hL',hadd⟩
   · have hless:=hR.less hn
     have hturn:=hR.turn hlt
     simp[go_sem,h0,h2,h7,h8,h9,h10,h12,h26,h27,h28,hv,hu,hv19,hv20,hh,hhu,hh19,hh20,hlt]
     exact⟨_,hless,o,t,rfl,rfl,rfl,hF,hL,by omega,hturn⟩
structure Fit (l:List Evt):Prop where
 len:l.length≤14
 prev:∀ e∈l,e.prev.length≤40
 auth:∀ e∈l,e.auth.length≤40
theorem Fit.refs {l:List Evt} (h:Fit l) (b:Bool):∀ e∈l,(yf0 b e).length≤40:=fun e he=>by
 cases b
 · exact h.prev e he
 · exact h.auth e he
theorem zf8 (e:Evt):AC prog 247 [ev e] (ints (yf0 true e)):=by
 refine AC.ob func247 ntmps247 results247 (zzi (zyh _)) (zxe _) fun w S'=>AWp.of_vc [] ?_
 simp[go_sem]
 refine PostR.ret ?_
 simp[go_sem,yf0]
def zk7 (l:List Evt) (ids:List Int):List Int:=ids.flatMap fun n=>((getE l n).map (·.auth)).getD []
theorem zk9 {l:List Evt} {ids:List Int} {k:Nat} (h:k < ids.length):zk7 l (ids.take (k+1))=zk7 l (ids.take k)++((getE l ids[k]).map (·.auth)).getD []:=by
 unfold zk7
 rw[List.take_succ_eq_append_getElem h,List.flatMap_append];simp
theorem zk8 {l:List Evt} (hl:Fit l):∀ ids:List Int,(zk7 l ids).length≤40 * ids.length
 | []=>Nat.le_refl _
 | n::ids=>by
  have ih:=zk8 hl ids
  have:zk7 l (n::ids)=((getE l n).map (·.auth)).getD []++zk7 l ids:=by simp[zk7]
  rw[this,List.length_append,List.length_cons]
  have:(((getE l n).map (·.auth)).getD []).length≤40:=by
   cases hg:getE l n with
   | none=>simp
   | some e=>exact hl.auth e (List.mem_of_find?_eq_some hg)
  omega
noncomputable def zf9 (l:List Evt) (ids:List Int):List Int:=reachOf l true (zk7 l ids)
theorem zga (l:List Evt) (ids:List Int) (hl:Fit l) (hi:ids.length≤1000000):AC prog 213 [evs l,ints ids] (ints (zf9 l ids)):=by
 refine AC.ob func213 ntmps213 results213 (zzj (zyk _) (zyr _)) (zxe _) fun w S'=>AWp.of_vc [] ?_
 have hll:=hl.len
 have hfl:=zk8 hl ids
 have hm:ids.length≤maxLen:=by unfold maxLen;omega
 simp[go_sem]
 refine cpu (zoh l) ?_
 simp[go_sem]
 refine AWp.ownNil 6 3 1 (by simp[go_sem]) ?_
 refine AWp.loop_vc [] (fun m s=>∃ (k v:Nat),m=ids.length - k∧k≤ids.length∧s.σ 0=evs l∧s.σ 5=idxAV l∧s.σ 6=.ref 6 v∧s.σ 13=ints ids∧s.σ 14=I ids.length∧s.σ 15=I k∧s.ver 6=v∧s.h 6=.arr 3 1 ((zk7 l (ids.take k)).map I)) ids.length ⟨0,1,by simp[go_sem,zk7]⟩ ?_
 rintro m s ⟨k,v,rfl,hk,h0,h5,h6,h13,h14,h15,hv,hh⟩
 by_cases hlt:k < ids.length
 · have hsu:=zk9 (l:=l) hlt
   have hkl:=zk8 hl (ids.take k)
   rw[List.length_take]at hkl
   generalize zk7 l (ids.take k)=X at hh hsu hkl
   rcases zn7 l ids[k] with ⟨hg,hm2⟩|⟨j,hj,hg,hm2⟩
   · rw[hg]at hsu
     simp[go_sem,h0,h5,h6,h13,h14,h15,hv,hh,hlt,hm2,yro hlt hm]
     exact⟨ids.length - (k+1),by omega,k+1,rfl,by omega,rfl,by rw[hsu];simp⟩
   · rw[hg]at hsu
     have h40:=hl.auth l[j] (List.getElem_mem hj)
     simp[go_sem,h0,h5,h6,h13,h14,h15,hv,hh,hlt,hj,hm2,yro hlt hm]
     exact⟨⟨by omega,by omega⟩,ids.length - (k+1),by omega,k+1,rfl,by omega,rfl,by rw[hsu];simp⟩
 · rw[List.take_of_length_le (by omega)]at hh
   simp[go_sem,h0,h5,h6,h13,h14,h15,hv,hh,hlt]
   refine CallSem.freeze 6 ?_
   simp[go_sem,h0,h5,h6,h13,h14,h15,hv,hh,hlt]
   refine cpu (yfq l (zk7 l ids) _ true zf8 (by omega) (by omega) (hl.refs true)) ?_
   simp[go_sem]
   refine PostR.ret ?_
   simp[go_sem,zf9]
end Go.Proofs.YthjmjdleecmaeaaGreat
namespace Go.Abs
open Go Go.RowKit
structure EntD where
 kind:Int
 key:Bytes
 id:Int
 deriving DecidableEq
def enc (e:EntD):List AV:=[I e.kind,S e.key,I e.id]
def ent (e:EntD):AV:=.agg (enc e)
def ents (l:List EntD):AV:=.lst 3 (l.map ent)
def ykh (l:List (List EntD)):AV:=.lst 1 (l.map ents)
theorem zyc (d:EntD):∀ c∈enc d,Pure c:=by
 intro c hc;simp only[enc,List.mem_cons,List.not_mem_nil,or_false]at hc;rcases hc with rfl|rfl|rfl<;>exact zzh _
theorem zyd (d:EntD):Pure (ent d):=zx3 (zyc d)
theorem zye (l:List EntD):Pure (ents l):=zyw fun x hx c hc=>by
 obtain⟨n,_,rfl⟩:=List.mem_map.1 hx
 exact zyc n c hc
theorem zze (l:List (List EntD)):Pure (ykh l):=zyw fun x hx c hc=>by
 obtain⟨n,_,rfl⟩:=List.mem_map.1 hx
 simp only[ents,AV.cells,List.mem_singleton]at hc;subst hc;exact zye _
theorem zs7 (st:St) (l:List EntD):okAll st (l.map ent):=fun c hc=>by obtain⟨n,_,rfl⟩:=List.mem_map.1 hc;rfl
theorem ziv (l:List EntD):(l.map ent).length=l.length:=by simp
theorem yki (l:List (List EntD)):(l.map ents).length=l.length:=by simp
attribute [go_sem] zs7 enc ent ents ykh
theorem zw3 (l:List EntD):PureR (ents l):=zye l
def prec (a b:EntD):Bool:=decide (a.kind < b.kind)||(decide (a.kind=b.kind)&&Op.bytesLess a.key b.key)
theorem u8_lt (p q:UInt8):p < q↔p.toNat < q.toNat:=UInt8.lt_iff_toNat_lt
theorem u8_eq (p q:UInt8):p=q↔p.toNat=q.toNat:=UInt8.toNat_inj.symm
theorem ze4 (x y:UInt8) (a b:Bytes):Op.bytesLess (x::a) (y::b)=true↔x.toNat < y.toNat∨(x.toNat=y.toNat∧Op.bytesLess a b=true):=by
 simp[Op.bytesLess,u8_lt,u8_eq]
theorem ze5:∀ a:Bytes,Op.bytesLess a a=false
 | []=>rfl
 | x::a=>by
  have:=ze5 a
  simp[Op.bytesLess,this]
theorem ze6:∀ a b:Bytes,Op.bytesLess a b=false→Op.bytesLess b a=false→a=b
 | [],[],_,_=>rfl
 | [],y::b,h,_=>by simp[Op.bytesLess]at h
 | x::a,[],_,h=>by simp[Op.bytesLess]at h
 | x::a,y::b,h,k=>by
  have h1:=mt (ze4 x y a b).2 (by simp[h])
  have k1:=mt (ze4 y x b a).2 (by simp[k])
  have e:x.toNat=y.toNat:=by omega
  have ha:Op.bytesLess a b=false:=by
   cases hh:Op.bytesLess a b with
   | false=>rfl
   | true=>exact (h1 (.inr ⟨e,hh⟩)).elim
  have hb:Op.bytesLess b a=false:=by
   cases hh:Op.bytesLess b a with
   | false=>rfl
   | true=>exact (k1 (.inr ⟨e.symm,hh⟩)).elim
  rw[ze6 a b ha hb,UInt8.toNat_inj.1 e]
theorem ze7:∀ a b c:Bytes,Op.bytesLess a b=true→Op.bytesLess b c=true→Op.bytesLess a c=true
 | _,[],c,h,_=>by simp[Op.bytesLess]at h
 | _,y::b,[],_,k=>by simp[Op.bytesLess]at k
 | [],y::b,z::c,_,_=>by simp[Op.bytesLess]
 | x::a,y::b,z::c,h,k=>by
  rw[ze4]at h k ⊢
  rcases h with h|⟨h,h'⟩
  · rcases k with k|⟨k,k'⟩
    · exact .inl (by omega)
    · exact .inl (by omega)
  · rcases k with k|⟨k,k'⟩
    · exact .inl (by omega)
    · exact .inr ⟨by omega,ze7 a b c h' k'⟩
theorem zwr (a:EntD):prec a a=false:=by simp[prec,ze5]
theorem zwu (a b:EntD) (h:prec a b=false) (k:prec b a=false):a.kind=b.kind∧a.key=b.key:=by
 simp only[prec,Bool.or_eq_false_iff,decide_eq_false_iff_not,Bool.and_eq_false_imp,decide_eq_true_eq]at h k
 have e:a.kind=b.kind:=by omega
 exact⟨e,ze6 _ _ (h.2 e) (k.2 e.symm)⟩
theorem zwv (a b c:EntD) (h:prec a b=true) (k:prec b c=true):prec a c=true:=by
 simp only[prec,Bool.or_eq_true,decide_eq_true_eq,Bool.and_eq_true]at h k ⊢
 rcases h with h|⟨h,h'⟩
 · rcases k with k|⟨k,k'⟩
   · exact .inl (by omega)
   · exact .inl (by omega)
 · rcases k with k|⟨k,k'⟩
   · exact .inl (by omega)
   · exact .inr ⟨by omega,ze7 _ _ _ h' k'⟩
end Go.Abs
namespace Go.Proofs.YthjmjdleecmaeaaGreat
open Go Go.Abs Go.Proofs.Tryz
theorem zxy {a b:AV} (h:Pure a) (k:Pure b) (ha:zat a) (hb:zat b):PureR (.tup [a,b]):=by
 intro r hr
 simp only[List.mem_cons,List.not_mem_nil,or_false]at hr
 rcases hr with rfl|rfl
 · exact ha
 · exact hb
theorem zwz (n:Int) (b:Bool):PureR (.tup [I n,B b]):=zxy (zx1 _) (zx0 _) (zx1 _) (zx0 _)
theorem zwq (a b:EntD):AC prog 155 [ent a,ent b] (B (prec a b)):=by
 refine AC.ob func155 ntmps155 results155 (zzj (zyd _) (zyd _)) (zx0 _) fun w S'=>AWp.of_vc [] ?_
 by_cases h1:a.kind < b.kind
 · simp[go_sem,h1]
   refine PostR.ret ?_
   simp[go_sem,prec,h1]
 · by_cases h2:a.kind=b.kind
   · simp[go_sem,h1,h2]
     refine PostR.ret ?_
     simp[go_sem,prec,h1,h2]
   · simp[go_sem,h1,h2]
     refine PostR.ret ?_
     simp[go_sem,prec,h1,h2]
theorem zx6 (x:EntD):Pure (.eptr (enc x) 0):=zyf (zyc x)
theorem find1_ac (e x:EntD):AC prog 154 [ent e,.eptr (enc x) 0] (B (prec e x)):=by
 refine AC.ob func154 ntmps154 results154 (zzj (zyd _) (zx6 _)) (zx0 _) fun w S'=>AWp.of_vc [] ?_
 simp[go_sem]
 refine cpu (zwq e x) ?_
 simp[go_sem]
 exact rets
theorem find2_ac (e x:EntD):AC prog 156 [ent e,.eptr (enc x) 0] (B (!prec x e)):=by
 refine AC.ob func156 ntmps156 results156 (zzj (zyd _) (zx6 _)) (zx0 _) fun w S'=>AWp.of_vc [] ?_
 simp[go_sem]
 refine cpu (zwq x e) ?_
 simp[go_sem]
 exact rets
def fidx (s:List EntD) (x:EntD):Nat:=(s.takeWhile fun e=>prec e x).length
def fok (s:List EntD) (x:EntD):Bool:=(s[fidx s x]?).elim false fun e=>!prec x e
theorem yoq {α:Type} (p:α→Bool):∀ (l:List α) (k:Nat),k≤l.length→(∀ (j:Nat) x,j < k→l[j]? = some x→p x=true)→(∀ x,l[k]? = some x→p x=false)→(l.takeWhile p).length=k
 | [],k,hk,_,_=>by simp at hk;simp[hk]
 | x::l,0,_,_,h2=>by simp[List.takeWhile_cons,h2 x rfl]
 | x::l,k+1,hk,h1,h2=>by
  have hx:=h1 0 x (by omega) rfl
  simp only[List.takeWhile_cons,hx,if_true,List.length_cons]
  rw[yoq p l k (by simpa using hk) (fun j y hj hy=>h1 (j+1) y (by omega) (by simpa using hy)) (fun y hy=>h2 y (by simpa using hy))]
theorem zjr (s:List EntD) (x:EntD):fidx s x≤s.length:=by
 unfold fidx
 have h:=congrArg List.length (List.takeWhile_append_dropWhile (p:=fun e:EntD=>prec e x) (l:=s))
 simp only[List.length_append]at h
 omega
theorem zlu {s:List EntD} {x:EntD} (h:fok s x=true):fidx s x < s.length:=by
 unfold fok at h
 cases he:s[fidx s x]? with
 | none=>rw[he]at h;cases h
 | some e=>exact (List.getElem?_eq_some_iff.1 he).1
def fnAV (f:FuncId) (x:EntD):AV:=.fn (.func f) [] [.eptr (enc x) 0]
theorem zyn (f:FuncId) (x:EntD):Pure (fnAV f x):=zym (fun c h=>by cases h) fun c h=>by simp only[List.mem_singleton]at h;subst h;exact zx6 x
attribute [go_sem] fnAV
theorem zv5 (s:List EntD) (x:EntD):AC prog 153 [ents s,fnAV 154 x,fnAV 156 x] (.tup [I (fidx s x),B (fok s x)]):=by
 refine AC.ob func153 ntmps153 results153 (zzk (zye _) (zyn _ _) (zyn _ _)) (zwz _ _) fun w S'=>AWp.bound 0 rfl fun hlen=>AWp.of_vc [] ?_
 rw[ziv]at hlen
 simp[go_sem]
 refine AWp.loop_vc [] (fun m s'=>∃ k:Nat,k≤s.length∧m=s.length - k∧s'.σ 0=ents s∧s'.σ 1=fnAV 154 x∧s'.σ 2=fnAV 156 x∧s'.σ 8=I k∧∀ (j:Nat) e,j < k→s[j]? = some e→prec e x=true) s.length ⟨0,by simp[go_sem]⟩ ?_
 rintro m s' ⟨k,hk,rfl,h0,h1,h2,h8,hno⟩
 have fin:(∀ e,s[k]? = some e→prec e x=false)→fidx s x=k:=fun h=>yoq _ s k hk hno h
 by_cases hlt:k < s.length
 · simp[go_sem,h0,h1,h2,h8,hlt]
   refine cpu (find1_ac s[k] x) ?_
   cases hp:prec s[k] x with
   | true =>
    simp[go_sem,h0,h1,h2,h8,hlt]
    refine⟨s.length - (k+1),by omega,k+1,by omega,rfl,by rw[yro hlt hlen];rfl,?_⟩
    intro j e hj he
    rcases Nat.lt_succ_iff_lt_or_eq.1 hj with hj|rfl
    · exact hno j e hj he
    · rw[List.getElem?_eq_getElem hlt]at he;cases he;exact hp
   | false =>
    have hf:fidx s x=k:=fin fun e he=>by rw[List.getElem?_eq_getElem hlt]at he;cases he;exact hp
    simp[go_sem,h0,h1,h2,h8,hlt]
    refine cpu (find2_ac s[k] x) ?_
    simp[go_sem,h0,h1,h2,h8,hlt]
    refine PostR.ret ?_
    simp[go_sem,hf,fok,hlt]
 · have hf:fidx s x=k:=fin fun e he=>by rw[List.getElem?_eq_none (by omega)]at he;cases he
   have hk':k=s.length:=by omega
   simp[go_sem,h0,h1,h2,h8,hlt]
   refine PostR.ret ?_
   simp[go_sem,hf,fok,hk']
theorem zko (s:List EntD) (k:Int) (key:Bytes):AC prog 99 [ents s,I k,S key] (.tup [I (fidx s ⟨k,key,0⟩),B (fok s ⟨k,key,0⟩)]):=by
 refine AC.ob func99 ntmps99 results99 (zzk (zye _) (zx1 _) (zx2 _)) (zwz _ _) fun w S'=>AWp.of_vc [] ?_
 simp[go_sem]
 refine CallSem.freeze 8 ?_
 simp[go_sem]
 refine cpu (zv5 s ⟨k,key,0⟩) ?_
 simp[go_sem]
 exact rets
def getOf (s:List EntD) (k:Int) (key:Bytes):Option Int:=if fok s ⟨k,key,0⟩=true then (s[fidx s ⟨k,key,0⟩]?).map (·.id) else none
def optAV (o:Option Int):AV:=.tup [I (o.getD 0),B o.isSome]
theorem zxj (o:Option Int):PureR (optAV o):=zwz _ _
attribute [go_sem] optAV
theorem zmy (s:List EntD) (k:Int) (key:Bytes):AC prog 147 [ents s,I k,S key] (optAV (getOf s k key)):=by
 refine AC.ob func147 ntmps147 results147 (zzk (zye _) (zx1 _) (zx2 _)) (zxj _) fun w S'=>AWp.of_vc [] ?_
 simp[go_sem]
 refine cpu (zko s k key) ?_
 cases hf:fok s ⟨k,key,0⟩ with
 | true =>
  have hlt:=zlu hf
  simp[go_sem,hlt]
  refine PostR.ret ?_
  simp[go_sem,getOf,hf,hlt]
 | false =>
  simp[go_sem]
  refine PostR.ret ?_
  simp[go_sem,getOf,hf]
def isKey (k:Int) (key:Bytes) (e:EntD):Bool:=e.kind==k&&e.key==key
theorem isKey_iff {k:Int} {key:Bytes} {e:EntD}:isKey k key e=true↔e.kind=k∧e.key=key:=by simp[isKey]
def yf9 (s:List EntD) (k:Int) (key:Bytes):Option Int:=(s.find? (isKey k key)).map (·.id)
def Agree (R:Nat) (s1 s2:St):Prop:=∀ id,id < 20000→id≠R→s2.ver id=s1.ver id∧s2.h id=s1.h id
def zaf (R V:Nat) (r:Loop) (st:St) (Inv:St→Prop) (Q:Exit→St→Prop):Exit→St→Prop
 | .normal,s=>(s.ver R=V∧s.h R=recB r .busy none)∧Inv (st.mem s)
 | .ret,s=>(s.ver R=V∧s.h R=recB r .busy none)∧Q .ret (st.mem (s.setH R .none))
 | .exit id,s=>(s.ver R=V∧s.h R=recB r .busy none)∧Q (.exit id) (st.mem (s.setH R .none))
 | _,_=>False
theorem yqd (R V:Nat) (r:Loop) (st:St) (Inv:St→Prop) (Q:Exit→St→Prop) (s:St):zaf R V r st Inv Q .normal s=((s.ver R=V∧s.h R=recB r .busy none)∧Inv (st.mem s)):=nrfl _
attribute [go_sem ↓] yqd
theorem zre {R:Nat} (st si s:St) (b:Blk) (d d':Nat) (x x':AV):st.mem ((((si.mem (s.setH R b)).put (some d) x).put (some d') x').setH R .none)=st.mem (s.setH R .none):=by
 simp only[St.mem,St.setH,St.put]
 congr 1
 funext j
 by_cases h:j=R<;>simp[upd,h]
theorem yfl {w0:World} {S0:Nat→Prop} {n:Nat} {e00:Option Env} {st:St} {g:Operand} {ps:Array Tmp} {assign body:Code} {Q:Exit→St→Prop} {s:List EntD} (R:Nat) (hRn:R < 20000)
 (hg:st.ev g=.fn (.func 139) [] [.eptr [ents s] 0]) (hps1:ps.size=1) (hps:∀ t∈ps.toList,t < n) (hlen:s.length≤maxLen)
 (Inv:Nat→St→Prop) (low:∀ k s1 s2,Inv k s1→s2.σ=s1.σ→Agree R s1 s2→Inv k s2) (h0:Inv 0 st)
 (round:∀ (k:Nat) (hk:k < s.length) (s1:St) (l:Nat) (r:Loop) (V:Nat) (e0:Option Env),Inv k s1→s1.σ=st.σ→s1.ver R=V→s1.h R=recB r .ready none →
  AWp ⟨prog,w0,S0,n,some l,fun d=>d,e0⟩ assign (PostAssign ⟨prog,w0,S0,n,none,fun d=>d,e00⟩ l R V r body (zaf R V r st (Inv (k+1)) Q)) ⟨zjz st.σ ps.toList [ent s[k]],s1.ver,s1.h⟩)
 (done:∀ s1,Inv s.length s1→s1.σ=st.σ→Q .normal s1):AWp ⟨prog,w0,S0,n,none,fun d=>d,e00⟩ (.rangeFunc g ps assign body) Q st:=by
 refine AWp.rangeFunc R 20000 rfl hg func139 rfl rfl ntmps139 (congrArg Array.toList results139) (by simp) fun l r e0 L=>AWp.of_vc [4] ?_
 simp[go_sem]
 have hne:∀ d,¬ d+20000=R:=fun d=>by omega
 have hne':∀ d,¬ R=d+20000:=fun d=>by omega
 refine AWp.loop_vc [] (fun m s'=>∃ k:Nat,k≤s.length∧m=s.length - k∧s'.σ 0=.v (.func (.yield l) #[] #[])∧s'.σ 5=ents s∧s'.σ 6=I s.length∧s'.σ 7=I k∧s'.ver R=st.ver R+1∧s'.h R=recB r .ready none∧Inv k (st.mem s')) s.length ⟨0,by simp,by simp,by simp[go_sem],by simp[go_sem],by simp[go_sem],by simp[go_sem],by simp[go_sem],by simp[go_sem],low 0 st _ h0 rfl fun id h1 h2=>by simp[go_sem,h2]⟩ ?_
 rintro m s' ⟨k,hk,rfl,g0,g5,g6,g7,gV,gR,gI⟩
 by_cases hlt:k < s.length
 · simp[go_sem,g0,g5,g6,g7,hlt,hne 4,hne' 4]
   refine YieldSem.round L (by simp[go_sem]) (by simp[hps1]) hps (by simp[go_sem,gV,hne 4,hne' 4]) (by simp[go_sem,gR,hne 4,hne' 4]) fun e0=>?_
   refine AWp.mono (round k hlt (st.mem _) l r (st.ver R+1) e0 (low k _ _ gI rfl fun id h1 h2=>?_) rfl (by simp[go_sem,gV,hne 4,hne' 4]) (by simp[go_sem,gR,hne 4,hne' 4])) fun e s1 hpa=>PostAssign.mono (fun e2 s2 h2=>?_) hpa
   · have:¬ id=20004:=by omega
     simp[go_sem,this]
   cases e2 with
   | normal =>
    obtain⟨hc,hi⟩:=h2
    refine⟨hc,?_⟩
    simp[go_sem,g0,g5,g6,g7,hlt]
    refine⟨s.length - (k+1),by omega,k+1,by omega,rfl,by rw[yro hlt hlen];rfl,by rw[hc.1],low _ _ _ hi rfl fun id h1 h2=>by simp[go_sem,h2]⟩
   | ret =>
    obtain⟨hc,hi⟩:=h2
    refine⟨hc,?_⟩
    simp[go_sem]
    refine⟨by rw[hc.1],.inr ⟨.ret,rfl,AWp.ret ?_⟩⟩
    rw[zre]
    exact hi
   | exit id =>
    obtain⟨hc,hi⟩:=h2
    refine⟨hc,?_⟩
    simp[go_sem]
    refine⟨by rw[hc.1],.inr ⟨.exit id,rfl,AWp.exit ?_⟩⟩
    rw[zre]
    exact hi
   | _=>exact h2.elim
 · have hk':k=s.length:=by omega
   subst hk'
   simp[go_sem,g0,g5,g6,g7]
   refine⟨gV,.inl ⟨gR,done _ (low _ _ _ gI rfl fun id h1 h2=>by simp[go_sem,h2]) rfl⟩⟩
theorem zyb (s:List EntD):Pure (.fn (.func 139) [] [.eptr [ents s] 0]):=zym (fun c h=>by cases h) fun c h=>by
 simp only[List.mem_singleton]at h;subst h
 exact zyf fun c h=>by simp only[List.mem_singleton]at h;subst h;exact zye s
theorem zij (s:List EntD):AC prog 90 [ents s] (.fn (.func 139) [] [.eptr [ents s] 0]):=by
 refine AC.ob func90 ntmps90 results90 (zzi (zye _)) (zyb s) fun w S'=>AWp.of_vc [] ?_
 simp[go_sem]
 exact rets
theorem zkc {α:Type} (p:α→Bool) (l:List α) (k:Nat) (h:k < l.length):(l.take (k+1)).filter p=if p l[k]=true then (l.take k).filter p++[l[k]] else (l.take k).filter p:=by
 rw[List.take_succ_eq_append_getElem h,List.filter_append]
 split
 · rename_i hp;simp[hp]
 · rename_i hp;simp[hp]
end Go.Proofs.YthjmjdleecmaeaaGreat
