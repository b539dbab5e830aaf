/- Several texts of the proof in one: B1, B2, B3. No condition. -/
import Derived.Test.YthjmjdleecmaeaaGreatL14
set_option linter.unusedSimpArgs false
set_option linter.unusedVariables false
set_option maxHeartbeats 4000000
set_option maxRecDepth 8000
namespace Go.Proofs.YthjmjdleecmaeaaGreat
open Go Go.Abs Go.Proofs.Tryz
def b8 (b:UInt8):AV:=.v (.int .u8 b.toNat)
def bys (l:Bytes):AV:=.lst 1 (l.map b8)
theorem zx5 (b:UInt8):Pure (b8 b):=zzh _
theorem zx7 (l:Bytes):Pure (bys l):=zyw fun x hx c hc=>by
 obtain⟨n,_,rfl⟩:=List.mem_map.1 hx
 have:c=b8 n:=by simpa [AV.cells,b8] using hc
 subst this;exact zx5 _
theorem zs6 (st:St) (l:Bytes):okAll st (l.map b8):=fun c hc=>by obtain⟨n,_,rfl⟩:=List.mem_map.1 hc;rfl
attribute [go_sem] zs6
theorem zfp (l:Bytes):zfm ⟨l.toArray⟩=l.map b8:=rfl
theorem zw0 (l:Bytes):PureR (bys l):=zx7 l
theorem zxc (e:Nat) (l:Bytes):PureR (.fresh e 1 (l.map b8)):=fun x hx c hc=>by
 obtain⟨n,_,rfl⟩:=List.mem_map.1 hx
 have:c=b8 n:=by simpa [AV.cells,b8] using hc
 subst this;exact zx5 _
section
variable {P:Program} {st:St} {id:Nat}
theorem y_cells (l:Bytes):(bys l).cells=[bys l]:=nrfl _
theorem y_ok (l:Bytes):zte st (bys l)=true:=nrfl _
theorem y_o1 (l:Bytes):out1 st (bys l)=some (bys l):=nrfl _
theorem y_take (d:Nat) (l:Bytes):St.take d (bys l) st=(st,bys l):=nrfl _
end
attribute [go_sem] y_cells y_ok y_o1 y_take
theorem wrapB {n:Int} (h1:-9223372036854775808≤n) (h2:n≤9223372036854775807):IntKind.i64.wrap n=n:=wrap_i64 h1 h2
theorem wrapU (n:Int):IntKind.u64.wrap n=n % 18446744073709551616:=by
 simp[IntKind.wrap,IntKind.bits,IntKind.signed]
theorem yrk (n:Int):IntKind.u8.wrap n=n % 256:=by
 simp[IntKind.wrap,IntKind.bits,IntKind.signed]
def zig (n:Int):Nat :=
 let u:=(n % 18446744073709551616).toNat * 2 % 18446744073709551616
 if n < 0 then 18446744073709551615 - u else u
def numB:Nat→Nat→Bytes
 | 0,u=>[UInt8.ofNat u]
 | f+1,u=>if 128≤u then UInt8.ofNat (u % 128+128)::numB f (u / 128) else [UInt8.ofNat u]
def encI (n:Int):Bytes:=numB 9 (zig n)
theorem zst:∀ (f u:Nat),(numB f u).length≤f+1∧0 < (numB f u).length
 | 0,u=>⟨Nat.le_refl _,Nat.zero_lt_one⟩
 | f+1,u=>by
  unfold numB
  split
  · have:=zst f (u / 128);simp only[List.length_cons];omega
  · simp
theorem zim (n:Int):(encI n).length≤10:=(zst 9 _).1
theorem zig_lt (n:Int):zig n < 18446744073709551616:=by
 unfold zig
 simp only
 split<;>omega
theorem or128 (x:Nat) (h:x < 256):orI .u8 (x:Int) 128=((x % 128+128:Nat):Int):=by
 have:∀ y:Fin 256,orI .u8 ((y.val:Nat):Int) 128=((y.val % 128+128:Nat):Int):=by decide +kernel
 exact this ⟨x,h⟩
theorem zs5 (u:Nat):BitVec.ofInt 64 (u:Int)=BitVec.ofNat 64 u:=by
 apply BitVec.eq_of_toNat_eq
 simp
theorem xorMax (u:Nat) (h:u < 18446744073709551616):xorI .u64 (if IntKind.u64.signed=true then -1 else IntKind.u64.max) (u:Int)=((18446744073709551615 - u:Nat):Int):=by
 have hm:(if IntKind.u64.signed=true then (-1:Int) else IntKind.u64.max)=((18446744073709551615:Nat):Int):=by decide
 rw[hm]
 show IntKind.u64.wrap (BitVec.ofInt 64 ((18446744073709551615:Nat):Int) ^^^ BitVec.ofInt 64 (u:Int)).toNat=_
 rw[zs5,zs5]
 have h1:BitVec.ofNat 64 18446744073709551615=BitVec.allOnes 64:=by decide +kernel
 rw[h1,BitVec.allOnes_xor,BitVec.toNat_not,BitVec.toNat_ofNat,wrapU,Nat.mod_eq_of_lt h]
 omega
theorem ypc (x:Nat) (h:x < 256):(UInt8.ofNat x).toNat=x:=by simp;omega
theorem zsx {G:Ctx} (hG:G.P=prog) {st:St} {dst:Option Tmp} {K:St→Prop} {id v:Nat} {L:Bytes} {n:Int} (hd:dstOK G.n dst) (hid:id < 20000) (hv:st.ver id=v) (hh:st.h id=.arr 5 1 (L.map b8)) (hsz:L.length≤100000000000000)
 (hK:∀ s v',s.ver id=v'→s.h id=.arr 5 1 ((L++encI n).map b8)→K ((st.mem s).put dst (.ref id v'))):CallSem G 241 [.ref id v,I n] dst K st:=by
 obtain⟨P,w0,S0,nn,rnd,ids,e0⟩:=G
 subst hG
 refine CallSem.inline 20000 func241 rfl rfl ntmps241 (congrArg Array.toList results241) (by simp) hd fun e1=>AWp.of_vc [] ?_
 simp[go_sem,bys]
 have hz:=zig_lt n
 have hnb:(numB 9 (zig n))=encI n:=rfl
 obtain⟨u0,hu0⟩:∃ u0:Nat,u0=(n % 18446744073709551616).toNat * 2 % 18446744073709551616:=⟨_,rfl⟩
 have wz:IntKind.u64.wrap (IntKind.u64.wrap n * 2)=(u0:Int):=by
  rw[wrapU,wrapU];omega
 obtain⟨z,hzz⟩:∃ z,z=zig n:=⟨_,rfl⟩
 have both:(n < 0∧xorI .u64 (if IntKind.u64.signed=true then -1 else IntKind.u64.max) (u0:Int)=(z:Int))∨(¬ n < 0∧(u0:Int)=(z:Int)):=by
  by_cases hn:n < 0
  · refine .inl ⟨hn,?_⟩
    rw[xorMax u0 (by omega),hzz]
    have:zig n=18446744073709551615 - u0:=by unfold zig;simp[hn,hu0]
    rw[this]
  · refine .inr ⟨hn,?_⟩
    have:zig n=u0:=by unfold zig;simp[hn,hu0]
    rw[hzz,this]
 rw[← hzz]at hz hnb
 clear hzz hu0
 rcases both with ⟨hn,hx⟩|⟨hn,hx⟩
 all_goals
  simp[go_sem,bys,hn,wz,hx]
  refine AWp.loop_vc [] (fun m s=>∃ (f u:Nat) (L':Bytes) (v':Nat),m=f∧u < 128 ^ (f+1)∧L'.length+f≤L.length+9∧s.σ 0=.ref id v'∧s.σ 5=.v (.int .u64 (u:Int))∧s.ver id=v'∧s.h id=.arr 5 1 (L'.map b8)∧L'++numB f u=L++encI n) 9 ?_ ?_
  · refine⟨9,z,L,v,rfl,by omega,by omega,?_⟩
    simp[go_sem,bys,hv,hh,hnb]
  · clear wz hx hn hz hnb hv hh
    rintro m s ⟨f,u,L',v',rfl,hu,hl,h0,h5,hv,hh,hap⟩
    by_cases h128:128≤u
    · have hi:(128:Int)≤(u:Int):=by omega
      simp[go_sem,bys,h0,h5,hv,hh,h128,hi]
      cases m with
      | zero=>simp at hu;omega
      | succ m =>
       refine⟨by omega,m,by omega,u / 128,?_,L'++[UInt8.ofNat (u % 128+128)],?_,?_,?_,?_⟩
       · rw[Nat.div_lt_iff_lt_mul (by omega)]
         rw[Nat.pow_succ]at hu
         exact hu
       · simp;omega
       · rw[Int.fdiv_eq_ediv_of_nonneg _ (by omega)];omega
       · have e1:IntKind.u8.wrap (u:Int)=((u % 256:Nat):Int):=by rw[yrk];omega
         rw[e1,or128 _ (by omega)]
         have e2:u % 256 % 128=u % 128:=by omega
         rw[e2]
         simp only[List.map_append,List.map_cons,List.map_nil,b8]
         rw[ypc _ (by omega)]
       · rw[← hap]
         unfold numB
         simp only[List.append_assoc,List.singleton_append,if_pos h128]
         cases m<;>rfl
    · have hi:¬ (128:Int)≤(u:Int):=by omega
      simp[go_sem,bys,h0,h5,hv,hh,h128,hi]
      refine⟨by omega,?_⟩
      refine PostIn.ret (r:=.ref id (v'+1)) (by simp[go_sem,bys,resIn]) ?_
      refine hK _ (v'+1) (by simp[go_sem,bys,hv]) ?_
      have e1:IntKind.u8.wrap (u:Int)=((u:Nat):Int):=by rw[yrk];omega
      have e2:numB m u=[UInt8.ofNat u]:=by cases m with
       | zero=>rfl
       | succ m=>unfold numB;rw[if_neg h128]
      rw[e2]at hap
      simp[go_sem,bys,e1]
      rw[← List.map_append,← hap]
      simp only[List.map_append,List.map_cons,List.map_nil,b8]
      rw[ypc _ (by omega)]
def encS (s:Bytes):Bytes:=encI s.length++s
def encSs (l:List Bytes):Bytes:=encI l.length++l.flatMap encS
def encIs (l:List Int):Bytes:=encI l.length++l.flatMap encI
def encB (b:Bool):Bytes:=if b then [1] else [0]
theorem yo0 {G:Ctx} (hG:G.P=prog) {st:St} {dst:Option Tmp} {K:St→Prop} {id v:Nat} {L:Bytes} {s:Bytes} (hd:dstOK G.n dst) (hid:id < 20000) (hv:st.ver id=v) (hh:st.h id=.arr 5 1 (L.map b8)) (hsz:(L++encS s).length≤100000000000000)
 (hK:∀ st' v',st'.ver id=v'→st'.h id=.arr 5 1 ((L++encS s).map b8)→K ((st.mem st').put dst (.ref id v'))):CallSem G 239 [.ref id v,S s] dst K st:=by
 obtain⟨P,w0,S0,nn,rnd,ids,e0⟩:=G
 subst hG
 have hlen:=zim s.length
 unfold encS at hsz
 simp only[List.length_append]at hsz
 refine CallSem.inline 20000 func239 rfl rfl ntmps239 (congrArg Array.toList results239) (by simp) hd fun e1=>AWp.of_vc [] ?_
 simp[go_sem,bys]
 refine zsx rfl (id:=id) (v:=v) (L:=L) (by simp[go_sem,bys]) hid (by simp[go_sem,bys,hv]) (by simp[go_sem,bys,hh]) (by omega) fun s1 v1 hv1 hh1=>?_
 generalize hE:encI (s.length:Int)=E at hlen hsz hh1 hK
 simp[go_sem,bys,hv1,hh1]
 refine⟨by omega,?_⟩
 refine PostIn.ret (r:=.ref id (v1+1)) (by simp[go_sem,bys,resIn]) ?_
 refine hK _ (v1+1) (by simp[go_sem,bys,hv1]) ?_
 simp[go_sem,bys,zfp,encS,hE]
theorem zqp {G:Ctx} (hG:G.P=prog) {st:St} {dst:Option Tmp} {K:St→Prop} {id v:Nat} {L:Bytes} {l:List Bytes} (hd:dstOK G.n dst) (hid:id < 20000) (hv:st.ver id=v) (hh:st.h id=.arr 5 1 (L.map b8)) (hll:l.length≤100000000000000) (hsz:(L++(encI l.length++l.flatMap encS)).length≤100000000000000)
 (hK:∀ st' v',st'.ver id=v'→st'.h id=.arr 5 1 ((L++(encI l.length++l.flatMap encS)).map b8)→K ((st.mem st').put dst (.ref id v'))):CallSem G 242 [.ref id v,strs l,.fn (.func 239) [] []] dst K st:=by
 obtain⟨P,w0,S0,nn,rnd,ids,e0⟩:=G
 subst hG
 have hlen:=zim l.length
 have hpre:∀ q,(L++encI l.length++(l.take q).flatMap encS).length≤100000000000000:=fun q=>by
  have h1:((l.take q).flatMap encS).length≤(l.flatMap encS).length:=by
   have h2:l.flatMap encS=(l.take q).flatMap encS++(l.drop q).flatMap encS:=by rw[← List.flatMap_append,List.take_append_drop]
   rw[h2,List.length_append];omega
  simp only[List.length_append]at hsz ⊢
  omega
 refine CallSem.inline 20000 func242 rfl rfl ntmps242 (congrArg Array.toList results242) (by simp) hd fun e1=>AWp.of_vc [] ?_
 simp[go_sem,bys]
 refine zsx rfl (id:=id) (v:=v) (L:=L) (by simp[go_sem,bys]) hid (by simp[go_sem,bys,hv]) (by simp[go_sem,bys,hh]) (by simp only[List.length_append]at hsz;omega) fun s1 v1 hv1 hh1=>?_
 generalize hE:encI (l.length:Int)=E at hlen hsz hh1 hK hpre
 simp[go_sem,bys,hv1,hh1]
 refine AWp.loop_vc [] (fun m s=>∃ (q v':Nat),q≤l.length∧m=l.length - q∧s.σ 13=strs l∧s.σ 14=I l.length∧s.σ 15=I q∧s.σ 2=.fn (.func 239) [] []∧s.σ 0=.ref id v'∧s.ver id=v'∧s.h id=.arr 5 1 ((L++E++(l.take q).flatMap encS).map b8)) l.length ⟨0,v1,by simp[go_sem,bys,hv1,hh1]⟩ ?_
 clear hv1 hh1 hv hh
 rintro m s ⟨q,v',hq,rfl,h13,h14,h15,h2,h0,hv,hh⟩
 by_cases hlt:q < l.length
 · have htk:l.take (q+1)=l.take q++[l[q]]:=by rw[List.take_succ_eq_append_getElem hlt]
   have hx:=hpre (q+1)
   rw[htk,List.flatMap_append,List.flatMap_singleton]at hx
   obtain⟨x,hxd⟩:∃ x,l[q]=x:=⟨_,rfl⟩
   rw[hxd]at htk hx
   simp[go_sem,bys,h13,h14,h15,h2,h0,hv,hh,hlt,hxd]
   refine yo0 rfl (id:=id) (v:=v') (L:=L++E++(l.take q).flatMap encS) (by simp[go_sem,bys]) hid (by simp[go_sem,bys,hv]) (by simp[go_sem,bys,hh]) (by simp only[List.length_append]at hx ⊢;omega) fun s2 v2 hv2 hh2=>?_
   simp[go_sem,bys,h13,h14,h15,h2,h0,hv2,hh2,hlt,yro hlt (show l.length≤maxLen by unfold maxLen;omega)]
   refine⟨l.length - (q+1),by omega,q+1,by omega,rfl,rfl,?_⟩
   rw[htk,List.flatMap_append,List.flatMap_singleton]
   simp
 · have htk:l.take q=l:=List.take_of_length_le (by omega)
   rw[htk]at hh
   simp[go_sem,bys,h13,h14,h15,h2,h0,hv,hh,hlt]
   refine PostIn.ret (r:=.ref id v') (by simp[go_sem,bys,resIn]) ?_
   exact hK _ v' (by simp[go_sem,bys,hv]) (by simp[go_sem,bys,hh])
theorem zqo {G:Ctx} (hG:G.P=prog) {st:St} {dst:Option Tmp} {K:St→Prop} {id v:Nat} {L:Bytes} {l:List Int} (hd:dstOK G.n dst) (hid:id < 20000) (hv:st.ver id=v) (hh:st.h id=.arr 5 1 (L.map b8)) (hll:l.length≤100000000000000) (hsz:(L++(encI l.length++l.flatMap encI)).length≤100000000000000)
 (hK:∀ st' v',st'.ver id=v'→st'.h id=.arr 5 1 ((L++(encI l.length++l.flatMap encI)).map b8)→K ((st.mem st').put dst (.ref id v'))):CallSem G 270 [.ref id v,ints l,.fn (.func 241) [] []] dst K st:=by
 obtain⟨P,w0,S0,nn,rnd,ids,e0⟩:=G
 subst hG
 have hlen:=zim l.length
 have hpre:∀ q,(L++encI l.length++(l.take q).flatMap encI).length≤100000000000000:=fun q=>by
  have h1:((l.take q).flatMap encI).length≤(l.flatMap encI).length:=by
   have h2:l.flatMap encI=(l.take q).flatMap encI++(l.drop q).flatMap encI:=by rw[← List.flatMap_append,List.take_append_drop]
   rw[h2,List.length_append];omega
  simp only[List.length_append]at hsz ⊢
  omega
 refine CallSem.inline 20000 func270 rfl rfl ntmps270 (congrArg Array.toList results270) (by simp) hd fun e1=>AWp.of_vc [] ?_
 simp[go_sem,bys]
 refine zsx rfl (id:=id) (v:=v) (L:=L) (by simp[go_sem,bys]) hid (by simp[go_sem,bys,hv]) (by simp[go_sem,bys,hh]) (by simp only[List.length_append]at hsz;omega) fun s1 v1 hv1 hh1=>?_
 generalize hE:encI (l.length:Int)=E at hlen hsz hh1 hK hpre
 simp[go_sem,bys,hv1,hh1]
 refine AWp.loop_vc [] (fun m s=>∃ (q v':Nat),q≤l.length∧m=l.length - q∧s.σ 13=ints l∧s.σ 14=I l.length∧s.σ 15=I q∧s.σ 2=.fn (.func 241) [] []∧s.σ 0=.ref id v'∧s.ver id=v'∧s.h id=.arr 5 1 ((L++E++(l.take q).flatMap encI).map b8)) l.length ⟨0,v1,by simp[go_sem,bys,hv1,hh1]⟩ ?_
 clear hv1 hh1 hv hh
 rintro m s ⟨q,v',hq,rfl,h13,h14,h15,h2,h0,hv,hh⟩
 by_cases hlt:q < l.length
 · have htk:l.take (q+1)=l.take q++[l[q]]:=by rw[List.take_succ_eq_append_getElem hlt]
   have hx:=hpre (q+1)
   rw[htk,List.flatMap_append,List.flatMap_singleton]at hx
   obtain⟨x,hxd⟩:∃ x,l[q]=x:=⟨_,rfl⟩
   rw[hxd]at htk hx
   simp[go_sem,bys,h13,h14,h15,h2,h0,hv,hh,hlt,hxd]
   refine zsx rfl (id:=id) (v:=v') (L:=L++E++(l.take q).flatMap encI) (by simp[go_sem,bys]) hid (by simp[go_sem,bys,hv]) (by simp[go_sem,bys,hh]) (by simp only[List.length_append]at hx ⊢;omega) fun s2 v2 hv2 hh2=>?_
   simp[go_sem,bys,h13,h14,h15,h2,h0,hv2,hh2,hlt,yro hlt (show l.length≤maxLen by unfold maxLen;omega)]
   refine⟨l.length - (q+1),by omega,q+1,by omega,rfl,rfl,?_⟩
   rw[htk,List.flatMap_append,List.flatMap_singleton]
   simp
 · have htk:l.take q=l:=List.take_of_length_le (by omega)
   rw[htk]at hh
   simp[go_sem,bys,h13,h14,h15,h2,h0,hv,hh,hlt]
   refine PostIn.ret (r:=.ref id v') (by simp[go_sem,bys,resIn]) ?_
   exact hK _ v' (by simp[go_sem,bys,hv]) (by simp[go_sem,bys,hh])
theorem ygh (b:Bytes) (m:Int) (hm:0≤m) (hsz:(b.length:Int)+m≤100000000000000):AC prog 240 [bys b,I m] (.fresh 5 1 (b.map b8)):=by
 refine AC.ob func240 ntmps240 results240 (zzj (zx7 _) (zx1 _)) (zxc _ _) fun w S'=>AWp.of_vc [] ?_
 have hw:IntKind.i64.wrap ((b.length:Int)+m)=(b.length:Int)+m:=wrapB (by omega) (by omega)
 have hp:(0:Int)≤(b.length:Int)+m:=by omega
 have htk:(b.map b8).take b.length=b.map b8:=List.take_of_length_le (by simp)
 simp[go_sem,bys,hw,hp]
 refine⟨⟨.inr (by omega),by omega⟩,?_⟩
 refine PostR.ret ?_
 simp[go_sem,bys,htk]
theorem zzt (b:Bytes) (n:Int) (hsz:b.length≤90000000000000):AC prog 188 [bys b,I n] (bys (b++encI n)):=by
 refine AC.ob func188 ntmps188 results188 (zzj (zx7 _) (zx1 _)) (zw0 _) fun w S'=>AWp.of_vc [] ?_
 simp[go_sem,bys]
 refine CallSem.pure (ygh b 10 (by omega) (by omega)) (by simp[go_sem,bys]) ?_
 simp[go_sem,bys]
 refine zsx rfl (id:=6) (v:=1) (L:=b) (by simp[go_sem,bys]) (by omega) (by simp[go_sem,bys]) (by simp[go_sem,bys]) (by omega) fun s1 v1 hv1 hh1=>?_
 simp[go_sem,bys,hv1,hh1]
 refine PostR.retW [6] ?_ (.refl _)
 simp[go_sem,bys,hv1,hh1]
theorem zzw (b:Bytes) (s:Bytes) (hsz:b.length≤40000000000000) (hs:s.length≤40000000000000):AC prog 187 [bys b,S s] (bys (b++encS s)):=by
 refine AC.ob func187 ntmps187 results187 (zzj (zx7 _) (zx2 _)) (zw0 _) fun w S'=>AWp.of_vc [] ?_
 have hw:IntKind.i64.wrap ((s.length:Int)+10)=(s.length:Int)+10:=wrapB (by omega) (by omega)
 have hl:=zim s.length
 simp[go_sem,bys,hw]
 refine CallSem.pure (ygh b (s.length+10) (by omega) (by omega)) (by simp[go_sem,bys]) ?_
 simp[go_sem,bys]
 refine yo0 rfl (id:=9) (v:=1) (L:=b) (by simp[go_sem,bys]) (by omega) (by simp[go_sem,bys]) (by simp[go_sem,bys]) (by simp only[encS,List.length_append];omega) fun s1 v1 hv1 hh1=>?_
 simp[go_sem,bys,hv1,hh1]
 refine PostR.retW [9] ?_ (.refl _)
 simp[go_sem,bys,hv1,hh1]
theorem zzx (b:Bytes) (l:List Bytes) (hsz:b.length≤10000000000000) (hl:l.length≤1000000000000) (hs:(l.flatMap encS).length≤40000000000000):AC prog 190 [bys b,strs l] (bys (b++encSs l)):=by
 refine AC.ob func190 ntmps190 results190 (zzj (zx7 _) (zzf _)) (zw0 _) fun w S'=>AWp.of_vc [] ?_
 have hw:IntKind.i64.wrap (8 * (l.length:Int))=8 * (l.length:Int):=wrapB (by omega) (by omega)
 have hw2:IntKind.i64.wrap (8 * (l.length:Int)+10)=8 * (l.length:Int)+10:=wrapB (by omega) (by omega)
 have hle:=zim l.length
 simp[go_sem,bys,hw,hw2]
 refine CallSem.pure (ygh b (8 * l.length+10) (by omega) (by omega)) (by simp[go_sem,bys]) ?_
 simp[go_sem,bys]
 refine zqp rfl (id:=10) (v:=1) (L:=b) (by simp[go_sem,bys]) (by omega) (by simp[go_sem,bys]) (by simp[go_sem,bys]) (by omega) (by simp only[List.length_append];omega) fun s1 v1 hv1 hh1=>?_
 simp[go_sem,bys,hv1,hh1]
 refine PostR.retW [10] ?_ (.refl _)
 simp[go_sem,bys,hv1,hh1,encSs]
theorem zzu (b:Bytes) (l:List Int) (hsz:b.length≤10000000000000) (hl:l.length≤1000000000000) (hs:(l.flatMap encI).length≤40000000000000):AC prog 243 [bys b,ints l] (bys (b++encIs l)):=by
 refine AC.ob func243 ntmps243 results243 (zzj (zx7 _) (zyr _)) (zw0 _) fun w S'=>AWp.of_vc [] ?_
 have hw:IntKind.i64.wrap (2 * (l.length:Int))=2 * (l.length:Int):=wrapB (by omega) (by omega)
 have hw2:IntKind.i64.wrap (2 * (l.length:Int)+10)=2 * (l.length:Int)+10:=wrapB (by omega) (by omega)
 have hle:=zim l.length
 simp[go_sem,bys,hw,hw2]
 refine CallSem.pure (ygh b (2 * l.length+10) (by omega) (by omega)) (by simp[go_sem,bys]) ?_
 simp[go_sem,bys]
 refine zqo rfl (id:=10) (v:=1) (L:=b) (by simp[go_sem,bys]) (by omega) (by simp[go_sem,bys]) (by simp[go_sem,bys]) (by omega) (by simp only[List.length_append];omega) fun s1 v1 hv1 hh1=>?_
 simp[go_sem,bys,hv1,hh1]
 refine PostR.retW [10] ?_ (.refl _)
 simp[go_sem,bys,hv1,hh1,encIs]
theorem zzo (b:Bytes) (t:Bool) (hsz:b.length≤90000000000000):AC prog 189 [bys b,B t] (bys (b++encB t)):=by
 refine AC.ob func189 ntmps189 results189 (zzj (zx7 _) (zx0 _)) (zw0 _) fun w S'=>AWp.of_vc [] ?_
 simp[go_sem,bys]
 refine CallSem.pure (ygh b 1 (by omega) (by omega)) (by simp[go_sem,bys]) ?_
 cases t with
 | true =>
  simp[go_sem,bys]
  refine⟨by omega,?_⟩
  refine PostR.retW [7] ?_ (.refl _)
  simp[go_sem,bys,encB,b8]
 | false =>
  simp[go_sem,bys]
  refine⟨by omega,?_⟩
  refine PostR.retW [7] ?_ (.refl _)
  simp[go_sem,bys,encB,b8]
end Go.Proofs.YthjmjdleecmaeaaGreat
namespace Go.Proofs.YthjmjdleecmaeaaGreat
open Go Go.Abs Go.Proofs.Tryz
def foldN (u:Nat) (c:UInt8):Nat:=((u ^^^ c.toNat) * 1099511628211) % 4611686018427387904
def foldB (u:Nat) (b:Bytes):Nat:=b.foldl foldN u
def sumB (b:Bytes):Int:=(foldB 860922984064492325 b:Nat)
theorem foldN_lt (u:Nat) (c:UInt8):foldN u c < 4611686018427387904:=Nat.mod_lt _ (by omega)
theorem zlv {u:Nat} (h:u < 4611686018427387904) (b:Bytes):foldB u b < 4611686018427387904:=by
 unfold foldB
 induction b generalizing u with
 | nil=>exact h
 | cons c b ih=>exact ih (foldN_lt u c)
theorem zlw {u:Nat} {b:Bytes} {q:Nat} (h:q < b.length):foldB u (b.take (q+1))=foldN (foldB u (b.take q)) b[q]:=by
 unfold foldB
 rw[List.take_succ_eq_append_getElem h,List.foldl_append,List.foldl_cons,List.foldl_nil]
theorem u8_ltB (c:UInt8):c.toNat < 256:=c.toNat_lt
theorem xorN (u c:Nat) (hu:u < 18446744073709551616) (hc:c < 18446744073709551616):xorI .u64 (u:Int) (c:Int)=((u ^^^ c:Nat):Int):=by
 show IntKind.u64.wrap (BitVec.ofInt 64 (u:Int) ^^^ BitVec.ofInt 64 (c:Int)).toNat=_
 rw[zs5,zs5,BitVec.toNat_xor,BitVec.toNat_ofNat,BitVec.toNat_ofNat,Nat.mod_eq_of_lt hu,Nat.mod_eq_of_lt hc,wrapU]
 have:=Nat.xor_lt_two_pow (n:=64) (show u < 2 ^ 64 from hu) (show c < 2 ^ 64 from hc)
 omega
theorem zct (u:Nat) (hu:u < 18446744073709551616):andI .u64 (u:Int) 4611686018427387903=((u % 4611686018427387904:Nat):Int):=by
 show IntKind.u64.wrap (BitVec.ofInt 64 (u:Int) &&& BitVec.ofInt 64 ((4611686018427387903:Nat):Int)).toNat=_
 rw[zs5,zs5,BitVec.toNat_and,BitVec.toNat_ofNat,BitVec.toNat_ofNat,Nat.mod_eq_of_lt (by exact hu)]
 have h1:4611686018427387903 % 2 ^ 64=2 ^ 62 - 1:=by decide
 rw[h1,Nat.and_two_pow_sub_one_eq_mod,wrapU]
 omega
theorem yrq {u c:Nat} (hu:u < 4611686018427387904) (hc:c < 256):u ^^^ c < 4611686018427387904 :=
 Nat.xor_lt_two_pow (n:=62) (show u < 2 ^ 62 from hu) (show c < 2 ^ 62 by omega)
theorem start_ac  : AC prog 186 [] (I 860922984064492325):=by
 refine AC.ob func186 ntmps186 results186 ((by simp)) (zx1 _) fun w S'=>AWp.of_vc [] ?_
 simp[go_sem,bys]
 exact rets
theorem fold_ac (u:Nat) (hu:u < 4611686018427387904) (b:Bytes) (hsz:b.length≤100000000000000):AC prog 185 [I u,bys b] (I (foldB u b:Nat)):=by
 refine AC.ob func185 ntmps185 results185 (zzj (zx1 _) (zx7 _)) (zx1 _) fun w S'=>AWp.of_vc [] ?_
 have w1:IntKind.u64.wrap (u:Int)=(u:Int):=by rw[wrapU];omega
 have m1:andI .u64 (u:Int) 4611686018427387903=(u:Int):=by rw[zct u (by omega),Nat.mod_eq_of_lt hu]
 simp[go_sem,bys,w1,m1]
 refine AWp.loop_vc [] (fun m s=>∃ q:Nat,q≤b.length∧m=b.length - q∧s.σ 11=bys b∧s.σ 12=I b.length∧s.σ 13=I q∧s.σ 5=.v (.int .u64 (foldB u (b.take q):Nat))) b.length ⟨0,by simp[go_sem,bys,foldB]⟩ ?_
 rintro m s ⟨q,hq,rfl,h11,h12,h13,h5⟩
 have hlt0:=zlv hu (b.take q)
 by_cases hlt:q < b.length
 · have hs:=zlw (u:=u) hlt
   generalize foldB u (b.take q)=x at hlt0 hs h5
   obtain⟨c,hc⟩:∃ c,b[q]=c:=⟨_,rfl⟩
   rw[hc]at hs
   have hc256:=u8_ltB c
   have e1:IntKind.u64.wrap (c.toNat:Int)=(c.toNat:Int):=by rw[wrapU];omega
   have e2:=xorN x c.toNat (by omega) (by omega)
   have h62:=yrq hlt0 hc256
   have e3:IntKind.u64.wrap (((x ^^^ c.toNat:Nat):Int) * 1099511628211)=(((x ^^^ c.toNat) * 1099511628211 % 18446744073709551616:Nat):Int):=by rw[wrapU];omega
   have e4:=zct ((x ^^^ c.toNat) * 1099511628211 % 18446744073709551616) (by omega)
   have e5:(x ^^^ c.toNat) * 1099511628211 % 18446744073709551616 % 4611686018427387904=foldN x c:=by unfold foldN;omega
   rw[e5]at e4
   generalize x ^^^ c.toNat=y at e2 e3 e4
   generalize y * 1099511628211 % 18446744073709551616=z at e3 e4
   simp[go_sem,bys,h11,h12,h13,h5,hlt,hc,b8,e1,e2,e3,e4,yro hlt (show b.length≤maxLen by unfold maxLen;omega)]
   exact⟨b.length - (q+1),by omega,q+1,by omega,rfl,rfl,by rw[hs]⟩
 · have htk:b.take q=b:=List.take_of_length_le (by omega)
   rw[htk]at h5 hlt0
   generalize foldB u b=x at h5 hlt0
   have w2:IntKind.i64.wrap (x:Int)=(x:Int):=wrapB (by omega) (by omega)
   simp[go_sem,bys,h11,h12,h13,h5,hlt,w2]
   refine PostR.ret ?_
   simp[go_sem,bys,w2]
theorem sum_ac (b:Bytes) (hsz:b.length≤100000000000000):AC prog 120 [bys b] (I (sumB b)):=by
 refine AC.ob func120 ntmps120 results120 (zzi (zx7 _)) (zx1 _) fun w S'=>AWp.of_vc [] ?_
 simp[go_sem,bys]
 refine CallSem.pure start_ac (by simp[go_sem,bys]) ?_
 simp[go_sem,bys]
 refine CallSem.pure (fold_ac 860922984064492325 (by omega) b hsz) (by simp[go_sem,bys]) ?_
 simp[go_sem,bys]
 refine PostR.ret ?_
 simp[go_sem,bys,sumB]
theorem ygr  : AC prog 101 [] (I 860922984064492325):=by
 refine AC.ob func101 ntmps101 results101 ((by simp)) (zx1 _) fun w S'=>AWp.of_vc [] ?_
 simp[go_sem,bys]
 exact rets
theorem remCut (u:Nat) (hu:u < 18446744073709551616):Int.tmod (u:Int) 4611686018427387904=((u % 4611686018427387904:Nat):Int):=by
 rw[Int.tmod_eq_emod_of_nonneg (by omega)];omega
theorem rfold_ac (u:Nat) (hu:u < 4611686018427387904) (b:Bytes) (hsz:b.length≤100000000000000):AC prog 100 [I u,bys b] (I (foldB u b:Nat)):=by
 refine AC.ob func100 ntmps100 results100 (zzj (zx1 _) (zx7 _)) (zx1 _) fun w S'=>AWp.of_vc [] ?_
 have w1:IntKind.u64.wrap (u:Int)=(u:Int):=by rw[wrapU];omega
 have m1:Int.tmod (u:Int) 4611686018427387904=(u:Int):=by rw[remCut u (by omega),Nat.mod_eq_of_lt hu]
 simp[go_sem,bys,w1,m1]
 refine AWp.loop_vc [] (fun m s=>∃ q:Nat,q≤b.length∧m=b.length - q∧s.σ 1=bys b∧s.σ 6=I q∧s.σ 5=.v (.int .u64 (foldB u (b.take q):Nat))) b.length ⟨0,by simp[go_sem,bys,foldB]⟩ ?_
 rintro m s ⟨q,hq,rfl,h1,h6,h5⟩
 have hlt0:=zlv hu (b.take q)
 by_cases hlt:q < b.length
 · have hs:=zlw (u:=u) hlt
   generalize foldB u (b.take q)=x at hlt0 hs h5
   obtain⟨c,hc⟩:∃ c,b[q]=c:=⟨_,rfl⟩
   rw[hc]at hs
   have hc256:=u8_ltB c
   have e1:IntKind.u64.wrap (c.toNat:Int)=(c.toNat:Int):=by rw[wrapU];omega
   have e2:=xorN x c.toNat (by omega) (by omega)
   have h62:=yrq hlt0 hc256
   have e3:IntKind.u64.wrap (((x ^^^ c.toNat:Nat):Int) * 1099511628211)=(((x ^^^ c.toNat) * 1099511628211 % 18446744073709551616:Nat):Int):=by rw[wrapU];omega
   have e4:=remCut ((x ^^^ c.toNat) * 1099511628211 % 18446744073709551616) (by omega)
   have e5:(x ^^^ c.toNat) * 1099511628211 % 18446744073709551616 % 4611686018427387904=foldN x c:=by unfold foldN;omega
   rw[e5]at e4
   generalize x ^^^ c.toNat=y at e2 e3 e4
   generalize y * 1099511628211 % 18446744073709551616=z at e3 e4
   simp[go_sem,bys,h1,h6,h5,hlt,hc,b8,e1,e2,e3,e4,yro hlt (show b.length≤maxLen by unfold maxLen;omega)]
   exact⟨b.length - (q+1),by omega,q+1,by omega,rfl,rfl,by rw[hs]⟩
 · have htk:b.take q=b:=List.take_of_length_le (by omega)
   rw[htk]at h5 hlt0
   generalize foldB u b=x at h5 hlt0
   have w2:IntKind.i64.wrap (x:Int)=(x:Int):=wrapB (by omega) (by omega)
   simp[go_sem,bys,h1,h6,h5,hlt,w2]
   refine PostR.ret ?_
   simp[go_sem,bys,w2]
theorem rsum_ac (b:Bytes) (hsz:b.length≤100000000000000):AC prog 64 [bys b] (I (sumB b)):=by
 refine AC.ob func64 ntmps64 results64 (zzi (zx7 _)) (zx1 _) fun w S'=>AWp.of_vc [] ?_
 simp[go_sem,bys]
 refine CallSem.pure ygr (by simp[go_sem,bys]) ?_
 simp[go_sem,bys]
 refine CallSem.pure (rfold_ac 860922984064492325 (by omega) b hsz) (by simp[go_sem,bys]) ?_
 simp[go_sem,bys]
 refine PostR.ret ?_
 simp[go_sem,bys,sumB]
theorem ygd (n:Int):AC prog 157 [I n] (bys (encI n)):=by
 refine AC.ob func157 ntmps157 results157 (zzi (zx1 _)) (zw0 _) fun w S'=>AWp.of_vc [] ?_
 have hz:=zig_lt n
 have hnb:(numB 9 (zig n))=encI n:=rfl
 obtain⟨u0,hu0⟩:∃ u0:Nat,u0=(n % 18446744073709551616).toNat * 2 % 18446744073709551616:=⟨_,rfl⟩
 have wz:IntKind.u64.wrap (IntKind.u64.wrap n * 2)=(u0:Int):=by
  rw[wrapU,wrapU];omega
 obtain⟨z,hzz⟩:∃ z,z=zig n:=⟨_,rfl⟩
 have both:(n < 0∧xorI .u64 (if IntKind.u64.signed=true then -1 else IntKind.u64.max) (u0:Int)=(z:Int))∨(¬ n < 0∧(u0:Int)=(z:Int)):=by
  by_cases hn:n < 0
  · refine .inl ⟨hn,?_⟩
    rw[xorMax u0 (by omega),hzz]
    have:zig n=18446744073709551615 - u0:=by unfold zig;simp[hn,hu0]
    rw[this]
  · refine .inr ⟨hn,?_⟩
    have:zig n=u0:=by unfold zig;simp[hn,hu0]
    rw[hzz,this]
 rw[← hzz]at hz hnb
 clear hzz hu0
 rcases both with ⟨hn,hx⟩|⟨hn,hx⟩
 all_goals
  simp[go_sem,bys,hn,wz,hx]
  refine AWp.ownNil 4 5 1 (by simp[go_sem,bys]) ?_
  refine AWp.loop_vc [] (fun m s=>∃ (f u:Nat) (L':Bytes) (v':Nat),m=f∧u < 128 ^ (f+1)∧L'.length+f≤9∧s.σ 4=.ref 4 v'∧s.σ 3=.v (.int .u64 (u:Int))∧s.ver 4=v'∧s.h 4=.arr 5 1 (L'.map b8)∧u < 18446744073709551616∧L'++numB f u=encI n) 9 ?_ ?_
  · refine⟨9,z,[],1,rfl,by omega,by simp,?_⟩
    simp[go_sem,bys,hnb,hx,hz]
  · clear wz hx hn hz hnb
    rintro m s ⟨f,u,L',v',rfl,hu,hl,h4,h3,hv,hh,hu64,hap⟩
    by_cases h128:128≤u
    · have hi:(128:Int)≤(u:Int):=by omega
      cases m with
      | zero=>simp at hu;omega
      | succ m =>
       have u64:u < 18446744073709551616:=hu64
       have e1:Int.tmod (u:Int) 128=((u % 128:Nat):Int):=by rw[Int.tmod_eq_emod_of_nonneg (by omega)];omega
       have e2:IntKind.u64.wrap (((u % 128:Nat):Int)+128)=((u % 128+128:Nat):Int):=by rw[wrapU];omega
       have e3:IntKind.u8.wrap ((u % 128+128:Nat):Int)=((u % 128+128:Nat):Int):=by rw[yrk];omega
       have e4:IntKind.u64.wrap (Int.tdiv (u:Int) 128)=((u / 128:Nat):Int):=by
        rw[Int.tdiv_eq_ediv_of_nonneg (by omega),wrapU];omega
       have e5:(UInt8.ofNat (u % 128+128)).toNat=u % 128+128:=ypc _ (by omega)
       have e4':IntKind.u64.wrap ((u:Int) / 128)=((u / 128:Nat):Int):=by rw[wrapU];omega
       have e6:IntKind.u8.wrap (IntKind.u64.wrap ((u:Int) % 128+128))=((u % 128+128:Nat):Int):=by rw[yrk,wrapU];omega
       generalize hd:u / 128=d at e4 e4'
       generalize hr:u % 128+128=r at e2 e3 e5 e6
       simp[go_sem,bys,h4,h3,hv,hh,h128,hi,e1,e2,e3,e4,e4',e6]
       refine⟨by omega,m,by omega,d,?_,L'++[UInt8.ofNat r],?_,rfl,?_,by omega,?_⟩
       · rw[← hd,Nat.div_lt_iff_lt_mul (by omega)]
         rw[Nat.pow_succ]at hu
         exact hu
       · simp;omega
       · simp only[List.map_append,List.map_cons,List.map_nil,b8,e5,e6]
       · rw[← hap]
         conv=>rhs;unfold numB
         simp only[List.append_assoc,List.singleton_append,if_pos h128,hd,hr]
    · have hi:¬ (128:Int)≤(u:Int):=by omega
      have e1:IntKind.u8.wrap (u:Int)=((u:Nat):Int):=by rw[yrk];omega
      have e2:numB m u=[UInt8.ofNat u]:=by cases m with
       | zero=>rfl
       | succ m=>unfold numB;rw[if_neg h128]
      rw[e2]at hap
      simp[go_sem,bys,h4,h3,hv,hh,h128,hi,e1]
      refine⟨by omega,?_⟩
      refine PostR.retW [4] ?_ (.refl _)
      have e3:(UInt8.ofNat u).toNat=u:=ypc _ (by omega)
      rw[← hap]
      simp only[List.map_append,List.map_cons,List.map_nil,b8,e3]
      simp[go_sem,bys,e1,hv]
theorem ygl (b:Bytes) (n:Int) (hsz:b.length≤90000000000000):AC prog 103 [bys b,I n] (bys (b++encI n)):=by
 refine AC.ob func103 ntmps103 results103 (zzj (zx7 _) (zx1 _)) (zw0 _) fun w S'=>AWp.of_vc [5] ?_
 have hl:=zim n
 simp[go_sem,bys]
 refine⟨by omega,?_⟩
 refine CallSem.pure (ygd n) (by simp[go_sem,bys]) ?_
 generalize encI n=E at hl ⊢
 simp[go_sem,bys]
 refine⟨by omega,?_⟩
 refine PostR.retW [5] ?_ (.refl _)
 simp[go_sem,bys]
theorem ygk (b:Bytes) (n:Int) (hsz:b.length≤90000000000000):AC prog 103 [bys b,I n] (.fresh 5 1 ((b++encI n).map b8)):=by
 refine AC.ob func103 ntmps103 results103 (zzj (zx7 _) (zx1 _)) (zxc _ _) fun w S'=>AWp.of_vc [5] ?_
 have hl:=zim n
 simp[go_sem,bys]
 refine⟨by omega,?_⟩
 refine CallSem.pure (ygd n) (by simp[go_sem,bys]) ?_
 generalize encI n=E at hl ⊢
 simp[go_sem,bys]
 refine⟨by omega,?_⟩
 refine PostR.ret ?_
 simp[go_sem,bys]
theorem ygm (b:Bytes) (s:Bytes) (hsz:b.length≤40000000000000) (hs:s.length≤40000000000000):AC prog 102 [bys b,S s] (bys (b++encS s)):=by
 refine AC.ob func102 ntmps102 results102 (zzj (zx7 _) (zx2 _)) (zw0 _) fun w S'=>AWp.of_vc [] ?_
 have hl:=zim s.length
 simp[go_sem,bys]
 refine CallSem.pure (ygk b s.length (by omega)) (by simp[go_sem,bys]) ?_
 unfold encS
 generalize encI (s.length:Int)=E at hl ⊢
 simp[go_sem,bys,zfp]
 refine⟨by omega,by omega,?_⟩
 refine PostR.retW [8] ?_ (.refl _)
 simp[go_sem,bys]
theorem ygj (b:Bytes) (t:Bool) (hsz:b.length≤90000000000000):AC prog 104 [bys b,B t] (bys (b++encB t)):=by
 refine AC.ob func104 ntmps104 results104 (zzj (zx7 _) (zx0 _)) (zw0 _) fun w S'=>AWp.of_vc [6] ?_
 simp[go_sem,bys]
 refine⟨by omega,?_⟩
 cases t with
 | true =>
  simp[go_sem,bys]
  refine⟨by omega,?_⟩
  refine PostR.retW [6] ?_ (.refl _)
  simp[go_sem,bys,encB,b8]
 | false =>
  simp[go_sem,bys]
  refine⟨by omega,?_⟩
  refine PostR.retW [6] ?_ (.refl _)
  simp[go_sem,bys,encB,b8]
theorem ygn (b:Bytes) (l:List Bytes) (hsz:b.length≤10000000000000) (hl:l.length≤1000000000000) (hs:(l.flatMap encS).length≤20000000000000):AC prog 105 [bys b,strs l] (bys (b++encSs l)):=by
 refine AC.ob func105 ntmps105 results105 (zzj (zx7 _) (zzf _)) (zw0 _) fun w S'=>AWp.of_vc [] ?_
 have hle:=zim l.length
 have hpre:∀ q,((l.take q).flatMap encS).length≤(l.flatMap encS).length:=fun q=>by
  have h2:l.flatMap encS=(l.take q).flatMap encS++(l.drop q).flatMap encS:=by rw[← List.flatMap_append,List.take_append_drop]
  rw[h2,List.length_append];omega
 have hone:∀ q (h:q < l.length),(l[q]).length≤(l.flatMap encS).length:=fun q h=>by
  have h1:=hpre (q+1)
  rw[List.take_succ_eq_append_getElem h,List.flatMap_append,List.flatMap_singleton]at h1
  simp only[encS,List.length_append]at h1 ⊢
  omega
 simp[go_sem,bys]
 refine CallSem.pure (ygl b l.length (by omega)) (by simp[go_sem,bys]) ?_
 unfold encSs
 generalize encI (l.length:Int)=E at hle ⊢
 simp[go_sem,bys]
 refine AWp.loop_vc [] (fun m s=>∃ q:Nat,q≤l.length∧m=l.length - q∧s.σ 1=strs l∧s.σ 6=I q∧s.σ 5=bys (b++E++(l.take q).flatMap encS)) l.length ⟨0,by simp[go_sem,bys]⟩ ?_
 rintro m s ⟨q,hq,rfl,h1,h6,h5⟩
 by_cases hlt:q < l.length
 · have htk:l.take (q+1)=l.take q++[l[q]]:=by rw[List.take_succ_eq_append_getElem hlt]
   have hp:=hpre q
   have ho:=hone q hlt
   obtain⟨x,hxd⟩:∃ x,l[q]=x:=⟨_,rfl⟩
   rw[hxd]at htk ho
   obtain⟨Y,hY⟩:∃ Y,b++E++(l.take q).flatMap encS=Y:=⟨_,rfl⟩
   have hYl:Y.length=b.length+E.length+((l.take q).flatMap encS).length:=by rw[← hY];simp only[List.length_append]
   rw[hY]at h5
   simp[go_sem,bys,h1,h6,h5,hlt,hxd]
   refine CallSem.pure (ygm Y x (by omega) (by omega)) (by simp[go_sem,bys]) ?_
   simp[go_sem,bys,h1,h6,h5,hlt,yro hlt (show l.length≤maxLen by unfold maxLen;omega)]
   refine⟨l.length - (q+1),by omega,q+1,by omega,rfl,rfl,?_⟩
   rw[htk,List.flatMap_append,List.flatMap_singleton,← hY]
   simp
 · have htk:l.take q=l:=List.take_of_length_le (by omega)
   rw[htk]at h5
   simp[go_sem,bys,h1,h6,h5,hlt]
   refine PostR.ret ?_
   simp[go_sem,bys,h5]
end Go.Proofs.YthjmjdleecmaeaaGreat
