/- Several texts of the proof in one: B11, B12. No condition. -/
import Derived.Test.YthjmjdleecmaeaaGreatL19
set_option linter.unusedSimpArgs false
set_option linter.unusedVariables false
set_option maxHeartbeats 4000000
set_option maxRecDepth 8000
namespace Go.Proofs.YthjmjdleecmaeaaGreat
open Go Go.Abs Go.Proofs.Tryz
def zqq (s:Bytes):Bool:=ypu locP s
def yh6 (s:Bytes):Bool:=ypu srvP s&&(zqi (s.headD 0)&&zqi (s.getLastD 0))
theorem local_ac (s:Bytes):AC prog 118 [S s] (B (zqq s)):=by
 refine AC.ob func118 ntmps118 results118 (zzi (zx2 _)) (zx0 _) fun w S'=>AWp.of_vc [] ?_
 simp[go_sem]
 refine cpu (ypv locP 182 locC_ac s) ?_
 simp[go_sem]
 refine PostR.ret ?_
 simp[go_sem,zqq]
theorem yh7 (s:Bytes):AC prog 119 [S s] (B (yh6 s)):=by
 refine AC.ob func119 ntmps119 results119 (zzi (zx2 _)) (zx0 _) fun w S'=>AWp.of_vc [] ?_
 simp[go_sem]
 refine cpu (ypv srvP 183 srvC_ac s) ?_
 unfold yh6
 cases hv:ypu srvP s with
 | false =>
  simp[go_sem]
  exact rets
 | true =>
  have hlen:1≤s.length∧s.length≤32:=by
   unfold ypu at hv
   simp only[Bool.and_eq_true,decide_eq_true_eq]at hv
   exact hv.1
  have h0:0 < s.length:=by omega
  have hh:s.headD 0=s[0]:=by
   cases s with
   | nil=>simp at h0
   | cons c s=>rfl
  have hl:s.getLastD 0=s[s.length - 1]:=by
   rw[List.getLastD_eq_getLast?,List.getLast?_eq_getElem?,List.getElem?_eq_getElem (by omega)];rfl
  rw[hh,hl]
  obtain⟨q,hq⟩:∃ q,s.length=q+1:=⟨s.length - 1,by omega⟩
  have hw:IntKind.i64.wrap ((s.length:Int) - 1)=(q:Int):=by rw[wrapB (by omega) (by omega)];omega
  have hw2:IntKind.i64.wrap (q:Int)=(q:Int):=wrapB (by omega) (by omega)
  have hqs:q < s.length:=by omega
  have hi:s[s.length - 1]=s[q]:=by congr 1;omega
  rw[hi]
  obtain⟨c,hc⟩:∃ c,s[0]=c:=⟨_,rfl⟩
  obtain⟨d,hd⟩:∃ d,s[q]=d:=⟨_,rfl⟩
  rw[hc,hd]
  have hne:¬ s=[]:=fun h=>by subst h;simp at h0
  simp[go_sem,h0,hc,hne]
  refine cpu (zqj c) ?_
  cases hlc:zqi c with
  | false =>
   simp[go_sem]
   exact rets
  | true =>
   simp[go_sem,hq,hw2,hqs,hd]
   refine cpu (zqj d) ?_
   simp[go_sem]
   exact rets
theorem zoa (s:Bytes):AC prog 238 [S s,S [58]] (I (idxB s 58)):=by
 refine AC.ob func238 ntmps238 results238 (zzj (zx2 _) (zx2 _)) (zx1 _) fun w S'=>AWp.of_vc [] ?_
 by_cases he:s=[58]
 · subst he
   have hi:idxB [58] 58=0:=by decide
   rw[hi]
   simp[go_sem]
   exact rets
 · have he2:¬ [58]=s:=fun h=>he h.symm
   have he3:(([58]:Bytes)==s)=false:=beq_eq_false_iff_ne.2 he2
   simp[go_sem,he,he2,he3]
   refine cpu (yjc s 58) ?_
   simp[go_sem]
   exact rets
def cutB (s:Bytes):Option (Bytes×Bytes):=if idxB s 58 < 0 then none else some (s.take (idxB s 58).toNat,s.drop ((idxB s 58).toNat+1))
def cutV (s:Bytes):AV:=match cutB s with
 | none=>.tup [S s,S [],B false]
 | some x=>.tup [S x.1,S x.2,B true]
theorem zw2 (s:Bytes):PureR (cutV s):=by
 unfold cutV
 split
 all_goals
  intro r hr
  simp only[List.mem_cons,List.not_mem_nil,or_false]at hr
  rcases hr with rfl|rfl|rfl<;>exact zzh _
theorem idxB_lt (s:Bytes) (c:UInt8):-1≤idxB s c∧idxB s c < s.length:=by
 unfold idxB
 induction s with
 | nil=>simp[Lib.indexByte]
 | cons b l ih =>
  unfold Lib.indexByte
  split
  · simp only[List.length_cons];omega
  · split
    · simp only[List.length_cons];omega
    · simp only[List.length_cons];omega
theorem scut_ac (s:Bytes) (hs:s.length≤1000000000000):AC prog 180 [S s,S [58]] (cutV s):=by
 refine AC.ob func180 ntmps180 results180 (zzj (zx2 _) (zx2 _)) (zw2 _) fun w S'=>AWp.of_vc [] ?_
 have hb:=idxB_lt s 58
 unfold cutV cutB
 simp[go_sem]
 refine cpu (zoa s) ?_
 by_cases h:idxB s 58 < 0
 · have hm:idxB s 58=-1:=by omega
   rw[if_pos h,hm]
   simp[go_sem]
   exact rets
 · rw[if_neg h]
   obtain⟨k,hk⟩:∃ k:Nat,idxB s 58=(k:Int):=⟨(idxB s 58).toNat,by omega⟩
   rw[hk]at hb ⊢
   have hkl:k < s.length:=by omega
   have hw:IntKind.i64.wrap ((k:Int)+1)=(k:Int)+1:=wrapB (by omega) (by omega)
   have hp:(0:Int)≤(k:Int)+1:=by omega
   have ht:((k:Int)+1).toNat=k+1:=by omega
   have hle:k+1≤s.length:=by omega
   have hle2:k≤s.length:=by omega
   simp[go_sem]
   refine da ?_
   simp[go_sem,hw,hp,ht,hle,hle2]
   have htk:List.take (s.length - (k+1)) (List.drop (k+1) s)=List.drop (k+1) s:=List.take_of_length_le (by simp)
   refine PostR.ret ?_
   simp[go_sem,zjk,htk]
theorem cut_ac (s:Bytes) (hs:s.length≤1000000000000):AC prog 117 [S s,S [58]] (cutV s):=by
 refine AC.ob func117 ntmps117 results117 (zzj (zx2 _) (zx2 _)) (zw2 _) fun w S'=>AWp.of_vc [] ?_
 have hc:=scut_ac s hs
 unfold cutV at hc ⊢
 cases hx:cutB s with
 | none =>
  rw[hx]at hc
  simp[go_sem]
  refine cpu hc ?_
  simp[go_sem]
  exact rets
 | some x =>
  rw[hx]at hc
  simp[go_sem]
  refine cpu hc ?_
  simp[go_sem]
  exact rets
def yj0 (id marks:Bytes):Option (Bytes×Bytes):=match id with
 | []=>none
 | c::r=>if idxB marks c < 0 then none else match cutB r with
  | none=>none
  | some x=>if zqq x.1&&yh6 x.2 then some x else none
def yj2 (o:Option (Bytes×Bytes)):AV:=match o with
 | none=>.tup [S [],S [],B false]
 | some x=>.tup [S x.1,S x.2,B true]
theorem zxu (o:Option (Bytes×Bytes)):PureR (yj2 o):=by
 unfold yj2
 split
 all_goals
  intro r hr
  simp only[List.mem_cons,List.not_mem_nil,or_false]at hr
  rcases hr with rfl|rfl|rfl<;>exact zzh _
theorem yj1 (id marks:Bytes) (hs:id.length≤1000000000000):AC prog 69 [S id,S marks] (yj2 (yj0 id marks)):=by
 refine AC.ob func69 ntmps69 results69 (zzj (zx2 _) (zx2 _)) (zxu _) fun w S'=>AWp.of_vc [] ?_
 cases id with
 | nil =>
  simp[go_sem,yj0,yj2]
  exact rets
 | cons c r =>
  have hrl:r.length≤1000000000000:=by simp only[List.length_cons]at hs;omega
  have hc:=cut_ac r hrl
  have hex:(ByteArray.mk (c::r).toArray).extract 1 (r.length+1)=⟨r.toArray⟩:=by rw[zjk];simp
  unfold yj0
  simp[go_sem]
  refine cpu (strIB_ac marks c) ?_
  by_cases h:idxB marks c < 0
  · rw[if_pos h]
    simp[go_sem,h,yj2]
    exact rets
  · rw[if_neg h]
    simp[go_sem,h]
    rw[hex]
    unfold cutV at hc
    cases hx:cutB r with
    | none =>
     rw[hx]at hc
     refine cpu hc ?_
     simp[go_sem,yj2]
     exact rets
    | some x =>
     rw[hx]at hc
     obtain⟨a,b⟩:=x
     simp only at hc ⊢
     refine cpu hc ?_
     simp[go_sem]
     refine cpu (local_ac a) ?_
     cases ha:zqq a with
     | false =>
      simp[go_sem,yj2]
      exact rets
     | true =>
      simp[go_sem]
      refine cpu (yh7 b) ?_
      cases hb:yh6 b with
      | false =>
       simp[go_sem,yj2]
       exact rets
      | true =>
       simp[go_sem,yj2]
       exact rets
def znt (s mark:Bytes):Int:=if (yj0 s mark).isSome then 0 else 3
def srvOf (s:Bytes):Bytes:=((yj0 s [64,33]).getD ([],[])).2
theorem znu (s mark:Bytes) (hs:s.length≤1000000000000):AC prog 40 [S s,S mark] (I (znt s mark)):=by
 refine AC.ob func40 ntmps40 results40 (zzj (zx2 _) (zx2 _)) (zx1 _) fun w S'=>AWp.of_vc [] ?_
 have hc:=yj1 s mark hs
 unfold znt
 cases hx:yj0 s mark with
 | none =>
  rw[hx]at hc
  unfold yj2 at hc
  simp[go_sem]
  refine cpu hc ?_
  simp[go_sem]
  exact rets
 | some x =>
  rw[hx]at hc
  unfold yj2 at hc
  simp[go_sem]
  refine cpu hc ?_
  simp[go_sem]
  exact rets
theorem znr (s:Bytes) (hs:s.length≤1000000000000):AC prog 21 [S s] (I (znt s [33])):=by
 refine AC.ob func21 ntmps21 results21 (zzi (zx2 _)) (zx1 _) fun w S'=>AWp.of_vc [] ?_
 simp[go_sem]
 refine cpu (znu s [33] hs) ?_
 simp[go_sem]
 exact rets
theorem zns (s:Bytes) (hs:s.length≤1000000000000):AC prog 158 [S s] (I (znt s [64])):=by
 refine AC.ob func158 ntmps158 results158 (zzi (zx2 _)) (zx1 _) fun w S'=>AWp.of_vc [] ?_
 simp[go_sem]
 refine cpu (znu s [64] hs) ?_
 simp[go_sem]
 exact rets
theorem yj6 (s:Bytes) (hs:s.length≤1000000000000):AC prog 74 [S s] (S (srvOf s)):=by
 refine AC.ob func74 ntmps74 results74 (zzi (zx2 _)) (zx2 _) fun w S'=>AWp.of_vc [] ?_
 have hc:=yj1 s [64,33] hs
 unfold srvOf
 cases hx:yj0 s [64,33] with
 | none =>
  rw[hx]at hc
  unfold yj2 at hc
  simp[go_sem]
  refine cpu hc ?_
  simp[go_sem]
  exact rets
 | some x =>
  rw[hx]at hc
  unfold yj2 at hc
  simp[go_sem]
  refine cpu hc ?_
  simp[go_sem]
  exact rets
def zk2 (f:Nat→Int) (n:Nat):Int:=match (List.range n).find? (fun j=>f j != 0) with
 | some j=>f j
 | none=>0
theorem zk3 {f:Nat→Int} {n:Nat} (h:∀ j,j < n→f j=0):zk2 f n=0:=by
 unfold zk2
 have:(List.range n).find? (fun j=>f j != 0)=none:=by
  rw[List.find?_eq_none]
  intro j hj
  simp[h j (List.mem_range.1 hj)]
 rw[this]
theorem zk5 {f:Nat→Int} {n q:Nat} (hq:q < n) (h:∀ j,j < q→f j=0) (hn:¬ f q=0):zk2 f n=f q:=by
 unfold zk2
 have:(List.range n).find? (fun j=>f j != 0)=some q:=by
  rw[List.find?_range_eq_some]
  exact⟨by simpa using hn,by simpa using hq,fun j hj=>by simp[h j hj]⟩
 rw[this]
theorem zet {f:Nat→Int} {q:Nat} (h:∀ j,j < q→f j=0) (hq:f q=0):∀ j,j < q+1→f j=0:=fun j hj=>by
 rcases Nat.lt_succ_iff_lt_or_eq.1 hj with h1|rfl
 · exact h j h1
 · exact hq
def zww (c:UInt8):Bool:=decide (33≤c.toNat)&&decide (c.toNat≤126)
def zm4 (p:Bytes) (j:Nat):Int:=if zww (p.getD j 33) then 0 else 3
def zm3 (p:Bytes):Int:=if p=[] then 9 else if 64 < p.length then 7 else zk2 (zm4 p) p.length
theorem zm5 (p:Bytes):AC prog 220 [S p] (I (zm3 p)):=by
 refine AC.ob func220 ntmps220 results220 (zzi (zx2 _)) (zx1 _) fun w S'=>AWp.of_vc [] ?_
 unfold zm3
 by_cases h1:p=[]
 · subst h1
   simp[go_sem]
   exact rets
 have g1:(p==([]:Bytes))=false:=beq_eq_false_iff_ne.2 h1
 have g1':p.isEmpty=false:=by simpa using h1
 by_cases h2:64 < p.length
 · have i2:(64:Int) < p.length:=by omega
   rw[if_neg h1,if_pos h2]
   simp[go_sem,h1,g1,g1',i2]
   exact rets
 rw[if_neg h1,if_neg h2]
 have i2:¬ (64:Int) < p.length:=by omega
 simp[go_sem,h1,g1,g1',i2]
 refine AWp.loop_vc [] (fun m s=>∃ q:Nat,q≤p.length∧m=p.length - q∧s.σ 0=S p∧s.σ 12=I p.length∧s.σ 13=I q∧∀ j,j < q→zm4 p j=0) p.length ⟨0,by simp[go_sem]⟩ ?_
 rintro m s ⟨q,hq,rfl,h0,h12,h13,hno⟩
 by_cases hlt:q < p.length
 · have hgd:p.getD q 33=p[q]:=by simp[List.getD,hlt]
   obtain⟨c,hc⟩:∃ c,p[q]=c:=⟨_,rfl⟩
   rw[hc]at hgd
   have hge:zm4 p q=if zww c then 0 else 3:=by unfold zm4;rw[hgd]
   unfold zww at hge
   obtain⟨n,hn⟩:∃ n,c.toNat=n:=⟨_,rfl⟩
   rw[hn]at hge
   by_cases c1:n < 33
   · have k1:(n:Int) < 33:=by omega
     have hne:zm4 p q=3:=by rw[hge];simp;omega
     rw[zk5 hlt hno (by rw[hne];decide),hne]
     simp[go_sem,h0,h12,h13,hlt,hc,hn,k1]
     exact rets
   · have k1:¬ (n:Int) < 33:=by omega
     by_cases c2:126 < n
     · have k2:(126:Int) < n:=by omega
       have hne:zm4 p q=3:=by rw[hge];simp;omega
       rw[zk5 hlt hno (by rw[hne];decide),hne]
       simp[go_sem,h0,h12,h13,hlt,hc,hn,k1,k2]
       exact rets
     · have k2:¬ (126:Int) < n:=by omega
       have hz:zm4 p q=0:=by rw[hge];simp;omega
       simp[go_sem,h0,h12,h13,hlt,hc,hn,k1,k2,yro hlt (show p.length≤maxLen by unfold maxLen;omega)]
       exact⟨p.length - (q+1),by omega,q+1,by omega,rfl,rfl,zet hno hz⟩
 · have hz:zk2 (zm4 p) p.length=0:=zk3 fun j hj=>hno j (by omega)
   rw[hz]
   simp[go_sem,h0,h12,h13,hlt]
   exact rets
def zvx (l:List Bytes) (j:Nat):Int:=zm3 (l.getD j [])
def patsI (l:List Bytes):Int:=if 100 < l.length then 7 else zk2 (zvx l) l.length
theorem zvy (l:List Bytes):AC prog 169 [strs l] (I (patsI l)):=by
 refine AC.ob func169 ntmps169 results169 (zzi (zzf _)) (zx1 _) fun w S'=>AWp.of_vc [] ?_
 unfold patsI
 by_cases h2:100 < l.length
 · have i2:(100:Int) < l.length:=by omega
   rw[if_pos h2]
   simp[go_sem,i2]
   exact rets
 rw[if_neg h2]
 have i2:¬ (100:Int) < l.length:=by omega
 simp[go_sem,i2]
 refine AWp.loop_vc [] (fun m s=>∃ q:Nat,q≤l.length∧m=l.length - q∧s.σ 9=strs l∧s.σ 10=I l.length∧s.σ 11=I q∧∀ j,j < q→zvx l j=0) l.length ⟨0,by simp[go_sem]⟩ ?_
 rintro m s ⟨q,hq,rfl,h9,h10,h11,hno⟩
 by_cases hlt:q < l.length
 · obtain⟨x,hx⟩:∃ x,l[q]=x:=⟨_,rfl⟩
   have hpe:zvx l q=zm3 x:=by unfold zvx;rw[← hx];simp[List.getD,hlt]
   simp[go_sem,h9,h10,h11,hlt,hx]
   refine cpu (zm5 x) ?_
   by_cases hz:zm3 x=0
   · rw[hz]
     simp[go_sem,h9,h10,h11,hlt,yro hlt (show l.length≤maxLen by unfold maxLen;omega)]
     exact⟨l.length - (q+1),by omega,q+1,by omega,rfl,rfl,zet hno (by rw[hpe,hz])⟩
   · rw[zk5 hlt hno (by rw[hpe];exact hz),hpe]
     have hz2:(zm3 x != 0)=true:=bne_iff_ne.2 hz
     simp[go_sem,h9,h10,h11,hlt,hz,hz2]
     exact rets
 · have hz:zk2 (zvx l) l.length=0:=zk3 fun j hj=>hno j (by omega)
   rw[hz]
   simp[go_sem,h9,h10,h11,hlt]
   exact rets
def leB (a b:Bytes):Bool:=Op.bytesLess a b||a==b
def ygf (l:List Bytes) (j:Nat):Int:=if znt (l.getD j []) [33]≠0 then 3 else if 0 < j∧leB (l.getD j []) (l.getD (j - 1) [])=true then 8 else 0
def zcn (k:Int) (c:Content):Int:=if k=6 then patsI c.allow else if 0 < c.allow.length∧c.n≠3 then 1 else if 100 < c.allow.length then 7 else zk2 (ygf c.allow) c.allow.length
theorem zco (k:Int) (c:Content) (hs:SmC c):AC prog 168 [I k,.agg (ctc c)] (I (zcn k c)):=by
 refine AC.ob func168 ntmps168 results168 (zzj (zx1 _) (zya _)) (zx1 _) fun w S'=>AWp.of_vc [] ?_
 unfold zcn
 by_cases h6:k=6
 · rw[if_pos h6]
   simp[go_sem,h6]
   refine cpu (zvy c.allow) ?_
   simp[go_sem]
   exact rets
 rw[if_neg h6]
 have hl:∀ x∈c.allow,x.length≤1000000000000:=fun x hx=>by
  unfold SmC bkC at hs
  have h1:∀ (l:List Bytes),x∈l→1+x.length≤bkT l:=fun l hx=>by
   induction l with
   | nil=>cases hx
   | cons y l ih =>
    simp only[bkT,List.map_cons,List.sum_cons]
    rcases List.mem_cons.1 hx with rfl|hx
    · omega
    · have:=ih hx;simp only[bkT]at this;omega
  have:=h1 _ hx
  omega
 by_cases h3:0 < c.allow.length∧c.n≠3
 · obtain⟨p1,p2⟩:=h3
   rw[if_pos ⟨p1,p2⟩]
   have n1:¬ c.allow=[]:=fun h=>by rw[h]at p1;simp at p1
   have n2:(c.n != 3)=true:=bne_iff_ne.2 p2
   have p1':(0:Int) < c.allow.length:=by omega
   simp[go_sem,h6,p1,p1',n1,n2,p2]
   exact rets
 rw[if_neg h3]
 have hcond:(c.allow=[]∨(¬ c.allow=[]∧c.n=3)):=by
  by_cases he:c.allow=[]
  · exact .inl he
  · refine .inr ⟨he,Classical.byContradiction fun hn=>h3 ⟨List.length_pos_iff.2 he,hn⟩⟩
 rcases hcond with he|⟨he,hn3⟩
 · have hz:zk2 (ygf c.allow) c.allow.length=0:=zk3 fun j hj=>by rw[he]at hj;simp at hj
   rw[hz,he]
   simp[go_sem,h6,he]
   refine AWp.loop_vc [] (fun m s=>m=0∧s.σ 30=I 0∧s.σ 31=I 0) 0 ⟨rfl,by simp[go_sem]⟩ ?_
   rintro m s ⟨rfl,h30,h31⟩
   simp[go_sem,h30,h31]
   exact rets
 have p1:0 < c.allow.length:=List.length_pos_iff.2 he
 have p1':(0:Int) < c.allow.length:=by omega
 by_cases h4:100 < c.allow.length
 · have i4:(100:Int) < c.allow.length:=by omega
   rw[if_pos h4]
   simp[go_sem,h6,p1,p1',he,hn3,i4]
   exact rets
 rw[if_neg h4]
 have i4:¬ (100:Int) < c.allow.length:=by omega
 obtain⟨l,hld⟩:∃ l,c.allow=l:=⟨_,rfl⟩
 rw[hld]at hl h3 he p1 p1' h4 i4 ⊢
 simp[go_sem,h6,hld,p1,p1',he,hn3,i4]
 refine AWp.loop_vc [] (fun m s=>∃ q:Nat,q≤l.length∧m=l.length - q∧s.σ 3=.eptr (ctc c) 0∧s.σ 29=strs l∧s.σ 30=I l.length∧s.σ 31=I q∧∀ j,j < q→ygf l j=0) l.length ⟨0,by simp[go_sem]⟩ ?_
 rintro m s ⟨q,hq,rfl,h3,h29,h30,h31,hno⟩
 by_cases hlt:q < l.length
 · obtain⟨x,hx⟩:∃ x,l[q]=x:=⟨_,rfl⟩
   have hxl:=hl x (hx ▸ List.getElem_mem hlt)
   have hgx:l.getD q []=x:=by rw[← hx];simp[List.getD,hlt]
   simp[go_sem,h3,h29,h30,h31,hlt,hx]
   refine cpu (znr x hxl) ?_
   by_cases hz:znt x [33]=0
   · rw[hz]
     cases q with
     | zero =>
      have hre:ygf l 0=0:=by unfold ygf;rw[hgx,hz];simp
      simp[go_sem,h3,h29,h30,h31,hlt,hx]
      refine⟨l.length - 1,by omega,1,by omega,rfl,?_,zet hno hre⟩
      first|rfl|decide|simp
     | succ p =>
      have hpl:p < l.length:=by omega
      obtain⟨y,hy⟩:∃ y,l[p]=y:=⟨_,rfl⟩
      have hgy:l.getD p []=y:=by rw[← hy];simp[List.getD,hpl]
      have hre:ygf l (p+1)=if leB x y=true then 8 else 0:=by
       unfold ygf
       rw[hgx,hz,show p+1 - 1=p from rfl,hgy]
       simp
      have hw:IntKind.i64.wrap (((p:Int)+1) - 1)=(p:Int):=by rw[wrapB (by omega) (by omega)];omega
      have hw':IntKind.i64.wrap (p:Int)=(p:Int):=wrapB (by omega) (by omega)
      have hp0:(0:Int) < (p:Int)+1:=by omega
      have hws:IntKind.i64.wrap ((p:Int)+1+1)=(p:Int)+1+1:=wrapB (by omega) (by omega)
      unfold leB at hre
      cases hb:(Op.bytesLess x y||x==y) with
      | true =>
       rw[hb]at hre
       rw[zk5 hlt hno (by rw[hre];decide),hre]
       simp[go_sem,h3,h29,h30,h31,hlt,hx,hld,hw,hw',hp0,hpl,hy,hb,-Bool.or_eq_true]
       exact rets
      | false =>
       rw[hb]at hre
       simp[go_sem,h3,h29,h30,h31,hlt,hx,hld,hw,hw',hp0,hpl,hy,hb,hws,-Bool.or_eq_true]
       exact⟨l.length - (p+1+1),by omega,p+1+1,by omega,rfl,by omega,zet hno (by rw[hre];rfl)⟩
   · have hre:ygf l q=3:=by unfold ygf;rw[hgx];simp[hz]
     rw[zk5 hlt hno (by rw[hre];decide),hre]
     have hz2:(znt x [33] != 0)=true:=bne_iff_ne.2 hz
     simp[go_sem,h3,h29,h30,h31,hlt,hz,hz2]
     exact rets
 · have hz:zk2 (ygf l) l.length=0:=zk3 fun j hj=>hno j (by omega)
   rw[hz]
   simp[go_sem,h3,h29,h30,h31,hlt]
   exact rets
def kindB (k:Int):Bool:=decide (1≤k)&&decide (k≤14)
def ykd (k:Int):Bool:=decide (1≤k)&&decide (k≤10)
def highB (n:Int):Bool:=decide (n < -1000)||decide (1000 < n)
theorem zpw (k:Int):AC prog 161 [I k] (B (kindB k)):=by
 refine AC.ob func161 ntmps161 results161 (zzi (zx1 _)) (zx0 _) fun w S'=>AWp.of_vc [] ?_
 unfold kindB
 by_cases h1:1≤k<;>by_cases h2:k≤14 <;>
  (simp[go_sem,h1,h2]
   refine PostR.ret ?_
   simp[go_sem,h1,h2])
theorem ykg (k:Int):AC prog 107 [I k] (B (ykd k)):=by
 refine AC.ob func107 ntmps107 results107 (zzi (zx1 _)) (zx0 _) fun w S'=>AWp.of_vc [] ?_
 unfold ykd
 by_cases h1:1≤k<;>by_cases h2:k≤10 <;>
  (simp[go_sem,h1,h2]
   refine PostR.ret ?_
   simp[go_sem,h1,h2])
theorem znl (n:Int):AC prog 223 [I n] (B (highB n)):=by
 refine AC.ob func223 ntmps223 results223 (zzi (zx1 _)) (zx0 _) fun w S'=>AWp.of_vc [] ?_
 unfold highB
 by_cases h1:n < -1000<;>by_cases h2:1000 < n <;>
  (simp[go_sem,h1,h2]
   refine PostR.ret ?_
   simp[go_sem,h1,h2])
def textI (k:Int) (c:Content):Int:=if k=9∧c.text≠[] then zm3 c.text else if k=12∧c.text=[] then 9 else if (k=12∧32 < c.text.length)∨400 < c.text.length then 7 else 0
def nI (k:Int) (n:Int):Int:=if k=9 then (if n=1∨n=2∨n=6 then 0 else 2) else
 if n < (if k=10 then 1 else 0)∨(if k=2 then 4 else if k=8 then 1000000000 else if k=10 then 10000 else 3) < n then 2 else 0
def yox (k:Int) (t:Int):Int:=if t < 0∨(t=0∧k≠11) then 2 else 0
def yo2 (c:Content):Int:=if c.thread=true∧c.target=0 then 1 else 0
def viaI (c:Content):Int:=if c.via=[] then 0 else if c.n≠3 then 1 else znt c.via [64]
theorem yoy (k:Int) (c:Content):AC prog 165 [I k,.agg (ctc c)] (I (yox k c.target)):=by
 refine AC.ob func165 ntmps165 results165 (zzj (zx1 _) (zya _)) (zx1 _) fun w S'=>AWp.of_vc [] ?_
 unfold yox
 by_cases h1:c.target < 0
 · simp[go_sem,h1]
   exact rets
 by_cases h2:c.target=0
 · by_cases h3:k=11
   · simp[go_sem,h1,h2,h3]
     exact rets
   · have g3:(k != 11)=true:=bne_iff_ne.2 h3
     simp[go_sem,h1,h2,h3,g3]
     exact rets
 · simp[go_sem,h1,h2]
   exact rets
theorem yo3 (k:Int) (c:Content):AC prog 166 [I k,.agg (ctc c)] (I (yo2 c)):=by
 refine AC.ob func166 ntmps166 results166 (zzj (zx1 _) (zya _)) (zx1 _) fun w S'=>AWp.of_vc [] ?_
 unfold yo2
 cases h1:c.thread with
 | false =>
  simp[go_sem,h1]
  exact rets
 | true =>
  by_cases h2:c.target=0
  · simp[go_sem,h1,h2]
    exact rets
  · simp[go_sem,h1,h2]
    exact rets
theorem via_ac (k:Int) (c:Content) (hs:SmC c):AC prog 167 [I k,.agg (ctc c)] (I (viaI c)):=by
 refine AC.ob func167 ntmps167 results167 (zzj (zx1 _) (zya _)) (zx1 _) fun w S'=>AWp.of_vc [] ?_
 have hl:c.via.length≤1000000000000:=by unfold SmC bkC at hs;omega
 unfold viaI
 by_cases h1:c.via=[]
 · simp[go_sem,h1]
   exact rets
 have g1:(c.via==([]:Bytes))=false:=beq_eq_false_iff_ne.2 h1
 have g1':c.via.isEmpty=false:=by simpa using h1
 by_cases h2:c.n=3
 · simp[go_sem,h1,g1,g1',h2]
   refine cpu (zns c.via hl) ?_
   simp[go_sem]
   exact rets
 · simp[go_sem,h1,g1,g1',h2]
   exact rets
theorem yoz (k:Int) (c:Content):AC prog 163 [I k,.agg (ctc c)] (I (textI k c)):=by
 refine AC.ob func163 ntmps163 results163 (zzj (zx1 _) (zya _)) (zx1 _) fun w S'=>AWp.of_vc [] ?_
 unfold textI
 by_cases h1:c.text=[]
 · by_cases k9:k=9
   · simp[go_sem,h1,k9]
     exact rets
   by_cases k12:k=12
   · simp[go_sem,h1,k9,k12]
     exact rets
   simp[go_sem,h1,k9,k12]
   exact rets
 have g1:(c.text==([]:Bytes))=false:=beq_eq_false_iff_ne.2 h1
 have g1':c.text.isEmpty=false:=by simpa using h1
 by_cases k9:k=9
 · simp[go_sem,h1,g1,g1',k9]
   refine cpu (zm5 c.text) ?_
   simp[go_sem]
   exact rets
 have il:(32 < (c.text.length:Int))=(32 < c.text.length):=by simp;omega
 have il4:(400 < (c.text.length:Int))=(400 < c.text.length):=by simp;omega
 by_cases k12:k=12<;>by_cases l1:32 < c.text.length<;>by_cases l4:400 < c.text.length <;>
  (simp[go_sem,h1,g1,g1',k9,k12,il,il4,l1,l4]
   refine PostR.ret ?_
   simp[go_sem])
theorem cn_ac (k:Int) (c:Content):AC prog 164 [I k,.agg (ctc c)] (I (nI k c.n)):=by
 refine AC.ob func164 ntmps164 results164 (zzj (zx1 _) (zya _)) (zx1 _) fun w S'=>AWp.of_vc [] ?_
 unfold nI
 by_cases k9:k=9
 · by_cases n1:c.n=1
   · simp[go_sem,k9,n1]
     exact rets
   by_cases n2:c.n=2
   · simp[go_sem,k9,n2]
     exact rets
   by_cases n6:c.n=6 <;>
    (simp[go_sem,k9,n1,n2,n6]
     refine PostR.ret ?_
     simp[go_sem])
 by_cases k2:k=2
 · by_cases a:c.n < 0<;>by_cases b:4 < c.n <;>
    (simp[go_sem,k2,a,b]
     refine PostR.ret ?_
     simp[go_sem])
 by_cases k8:k=8
 · by_cases a:c.n < 0<;>by_cases b:1000000000 < c.n <;>
    (simp[go_sem,k8,a,b]
     refine PostR.ret ?_
     simp[go_sem])
 by_cases k10:k=10
 · by_cases a:c.n < 1<;>by_cases b:10000 < c.n <;>
    (simp[go_sem,k10,a,b]
     refine PostR.ret ?_
     simp[go_sem])
 by_cases a:c.n < 0<;>by_cases b:3 < c.n <;>
  (simp[go_sem,k9,k2,k8,k10,a,b]
   refine PostR.ret ?_
   simp[go_sem])
end Go.Proofs.YthjmjdleecmaeaaGreat
