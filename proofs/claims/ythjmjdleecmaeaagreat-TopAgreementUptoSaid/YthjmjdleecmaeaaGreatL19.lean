/- Several texts of the proof in one: B8, B10, B9. No condition. -/
import Derived.Test.YthjmjdleecmaeaaGreatL18
import Derived.Lib.Bytealg
import Derived.Tactics
import Derived.Tactics2
set_option linter.unusedSimpArgs false
set_option linter.unusedVariables false
set_option maxHeartbeats 4000000
set_option maxRecDepth 8000
namespace Go.Proofs.YthjmjdleecmaeaaGreat
open Go Go.Abs Go.Proofs.Tryz
theorem yqu {G:Ctx} (hG:G.P=prog) {st:St} {dst:Option Tmp} {K:St→Prop} {id v:Nat} {b:Bytes} (x:Int) (hd:dstOK G.n dst) (hid:id < 20000) (hv:st.ver id=v) (hh:st.h id=.box [bys b]) (hsz:b.length≤9000000000000) (hx:True)
 (hK:∀ s,s.ver id=v→s.h id=.box [bys (b++encI x)]→K ((st.mem s).put dst (.tup []))):CallSem G 192 [.rptr id v 0 0,I x] dst K st:=by
 obtain⟨P,w0,S0,nn,rnd,ids,e0⟩:=G
 subst hG
 refine CallSem.inline 20000 func192 rfl rfl ntmps192 (congrArg Array.toList results192) (by simp) hd fun e1=>AWp.of_vc [] ?_
 simp[go_sem,hv,hh]
 refine cpu (zzt b x (by omega)) ?_
 simp[go_sem,hv,hh]
 refine PostIn.normal (r:=.tup []) (by simp[go_sem,resIn]) ?_
 exact hK _ (by simp[go_sem,hv]) (by simp[go_sem,hv,hh])
theorem zcf {G:Ctx} (hG:G.P=prog) {st:St} {dst:Option Tmp} {K:St→Prop} {id v:Nat} {b:Bytes} (l:List Int) (hd:dstOK G.n dst) (hid:id < 20000) (hv:st.ver id=v) (hh:st.h id=.box [bys b]) (hsz:b.length+(l.flatMap encI).length≤9000000000000) (hl:l.length≤100) (hx:∀ x∈l,True)
 (hK:∀ s,s.ver id=v→s.h id=.box [bys (b++l.flatMap encI)]→K ((st.mem s).put dst (.tup []))):CallSem G 191 [.fn (.func 192) [.rptr id v 0 0] [],.lst 1 (l.map I)] dst K st:=by
 obtain⟨P,w0,S0,nn,rnd,ids,e0⟩:=G
 subst hG
 refine CallSem.inline 20000 func191 rfl rfl ntmps191 (congrArg Array.toList results191) (by simp) hd fun e1=>AWp.of_vc [] ?_
 simp[go_sem,hv,hh]
 refine AWp.loop_vc [] (fun m s=>∃ q:Nat,q≤l.length∧m=l.length - q∧s.σ 0=.fn (.func 192) [.rptr id v 0 0] []∧s.σ 6=.lst 1 (l.map I)∧s.σ 7=I l.length∧s.σ 8=I q∧s.ver id=v∧s.h id=.box [bys (b++(l.take q).flatMap encI)]) l.length ⟨0,by simp[go_sem,hv,hh]⟩ ?_
 clear hv hh
 rintro m s ⟨q,hq,rfl,h0,h6,h7,h8,hv,hh⟩
 by_cases hlt:q < l.length
 · have hone:=zuf encI l q hlt
   have hpre:=zwp encI l q
   have hmem:l[q]∈l:=List.getElem_mem hlt
   have hxq:=hx _ hmem
   obtain⟨x,hxd⟩:∃ x,l[q]=x:=⟨_,rfl⟩
   rw[hxd]at hone
   try rw[hxd]at hxq
   simp[go_sem,h0,h6,h7,h8,hv,hh,hlt,hxd]
   refine yqu rfl x (b:=b++(l.take q).flatMap encI) (by simp[go_sem]) hid (by simp[go_sem,hv]) (by simp[go_sem,hh]) (by rw[List.length_append];omega) hxq fun s2 hv2 hh2=>?_
   simp[go_sem,h0,h6,h7,h8,hv2,hh2,hlt,yro hlt (show l.length≤maxLen by unfold maxLen;omega)]
   refine⟨l.length - (q+1),by omega,q+1,by omega,rfl,rfl,?_⟩
   rw[hone]
 · have htk:l.take q=l:=List.take_of_length_le (by omega)
   rw[htk]at hh
   simp[go_sem,h0,h6,h7,h8,hv,hh,hlt]
   refine PostIn.normal (r:=.tup []) (by simp[go_sem,resIn]) ?_
   exact hK _ (by simp[go_sem,hv]) (by simp[go_sem,hv,hh])
theorem yq1 {G:Ctx} (hG:G.P=prog) {st:St} {dst:Option Tmp} {K:St→Prop} {id v:Nat} {b:Bytes} (x:Bytes) (hd:dstOK G.n dst) (hid:id < 20000) (hv:st.ver id=v) (hh:st.h id=.box [bys b]) (hsz:b.length≤9000000000000) (hx:x.length≤30000000000000)
 (hK:∀ s,s.ver id=v→s.h id=.box [bys (b++encS x)]→K ((st.mem s).put dst (.tup []))):CallSem G 194 [.rptr id v 0 0,S x] dst K st:=by
 obtain⟨P,w0,S0,nn,rnd,ids,e0⟩:=G
 subst hG
 refine CallSem.inline 20000 func194 rfl rfl ntmps194 (congrArg Array.toList results194) (by simp) hd fun e1=>AWp.of_vc [] ?_
 simp[go_sem,hv,hh]
 refine cpu (zzw b x (by omega) (by omega)) ?_
 simp[go_sem,hv,hh]
 refine PostIn.normal (r:=.tup []) (by simp[go_sem,resIn]) ?_
 exact hK _ (by simp[go_sem,hv]) (by simp[go_sem,hv,hh])
theorem zci {G:Ctx} (hG:G.P=prog) {st:St} {dst:Option Tmp} {K:St→Prop} {id v:Nat} {b:Bytes} (l:List Bytes) (hd:dstOK G.n dst) (hid:id < 20000) (hv:st.ver id=v) (hh:st.h id=.box [bys b]) (hsz:b.length+(l.flatMap encS).length≤9000000000000) (hl:l.length≤100) (hx:∀ x∈l,x.length≤30000000000000)
 (hK:∀ s,s.ver id=v→s.h id=.box [bys (b++l.flatMap encS)]→K ((st.mem s).put dst (.tup []))):CallSem G 193 [.fn (.func 194) [.rptr id v 0 0] [],.lst 1 (l.map S)] dst K st:=by
 obtain⟨P,w0,S0,nn,rnd,ids,e0⟩:=G
 subst hG
 refine CallSem.inline 20000 func193 rfl rfl ntmps193 (congrArg Array.toList results193) (by simp) hd fun e1=>AWp.of_vc [] ?_
 simp[go_sem,hv,hh]
 refine AWp.loop_vc [] (fun m s=>∃ q:Nat,q≤l.length∧m=l.length - q∧s.σ 0=.fn (.func 194) [.rptr id v 0 0] []∧s.σ 6=.lst 1 (l.map S)∧s.σ 7=I l.length∧s.σ 8=I q∧s.ver id=v∧s.h id=.box [bys (b++(l.take q).flatMap encS)]) l.length ⟨0,by simp[go_sem,hv,hh]⟩ ?_
 clear hv hh
 rintro m s ⟨q,hq,rfl,h0,h6,h7,h8,hv,hh⟩
 by_cases hlt:q < l.length
 · have hone:=zuf encS l q hlt
   have hpre:=zwp encS l q
   have hmem:l[q]∈l:=List.getElem_mem hlt
   have hxq:=hx _ hmem
   obtain⟨x,hxd⟩:∃ x,l[q]=x:=⟨_,rfl⟩
   rw[hxd]at hone
   try rw[hxd]at hxq
   simp[go_sem,h0,h6,h7,h8,hv,hh,hlt,hxd]
   refine yq1 rfl x (b:=b++(l.take q).flatMap encS) (by simp[go_sem]) hid (by simp[go_sem,hv]) (by simp[go_sem,hh]) (by rw[List.length_append];omega) hxq fun s2 hv2 hh2=>?_
   simp[go_sem,h0,h6,h7,h8,hv2,hh2,hlt,yro hlt (show l.length≤maxLen by unfold maxLen;omega)]
   refine⟨l.length - (q+1),by omega,q+1,by omega,rfl,rfl,?_⟩
   rw[hone]
 · have htk:l.take q=l:=List.take_of_length_le (by omega)
   rw[htk]at hh
   simp[go_sem,h0,h6,h7,h8,hv,hh,hlt]
   refine PostIn.normal (r:=.tup []) (by simp[go_sem,resIn]) ?_
   exact hK _ (by simp[go_sem,hv]) (by simp[go_sem,hv,hh])
theorem yqi {G:Ctx} (hG:G.P=prog) {st:St} {dst:Option Tmp} {K:St→Prop} {id v:Nat} {b:Bytes} (x:Bool) (hd:dstOK G.n dst) (hid:id < 20000) (hv:st.ver id=v) (hh:st.h id=.box [bys b]) (hsz:b.length≤9000000000000) (hx:True)
 (hK:∀ s,s.ver id=v→s.h id=.box [bys (b++encB x)]→K ((st.mem s).put dst (.tup []))):CallSem G 196 [.rptr id v 0 0,B x] dst K st:=by
 obtain⟨P,w0,S0,nn,rnd,ids,e0⟩:=G
 subst hG
 refine CallSem.inline 20000 func196 rfl rfl ntmps196 (congrArg Array.toList results196) (by simp) hd fun e1=>AWp.of_vc [] ?_
 simp[go_sem,hv,hh]
 refine cpu (zzo b x (by omega)) ?_
 simp[go_sem,hv,hh]
 refine PostIn.normal (r:=.tup []) (by simp[go_sem,resIn]) ?_
 exact hK _ (by simp[go_sem,hv]) (by simp[go_sem,hv,hh])
theorem zcc {G:Ctx} (hG:G.P=prog) {st:St} {dst:Option Tmp} {K:St→Prop} {id v:Nat} {b:Bytes} (l:List Bool) (hd:dstOK G.n dst) (hid:id < 20000) (hv:st.ver id=v) (hh:st.h id=.box [bys b]) (hsz:b.length+(l.flatMap encB).length≤9000000000000) (hl:l.length≤100) (hx:∀ x∈l,True)
 (hK:∀ s,s.ver id=v→s.h id=.box [bys (b++l.flatMap encB)]→K ((st.mem s).put dst (.tup []))):CallSem G 195 [.fn (.func 196) [.rptr id v 0 0] [],.lst 1 (l.map B)] dst K st:=by
 obtain⟨P,w0,S0,nn,rnd,ids,e0⟩:=G
 subst hG
 refine CallSem.inline 20000 func195 rfl rfl ntmps195 (congrArg Array.toList results195) (by simp) hd fun e1=>AWp.of_vc [] ?_
 simp[go_sem,hv,hh]
 refine AWp.loop_vc [] (fun m s=>∃ q:Nat,q≤l.length∧m=l.length - q∧s.σ 0=.fn (.func 196) [.rptr id v 0 0] []∧s.σ 6=.lst 1 (l.map B)∧s.σ 7=I l.length∧s.σ 8=I q∧s.ver id=v∧s.h id=.box [bys (b++(l.take q).flatMap encB)]) l.length ⟨0,by simp[go_sem,hv,hh]⟩ ?_
 clear hv hh
 rintro m s ⟨q,hq,rfl,h0,h6,h7,h8,hv,hh⟩
 by_cases hlt:q < l.length
 · have hone:=zuf encB l q hlt
   have hpre:=zwp encB l q
   have hmem:l[q]∈l:=List.getElem_mem hlt
   have hxq:=hx _ hmem
   obtain⟨x,hxd⟩:∃ x,l[q]=x:=⟨_,rfl⟩
   rw[hxd]at hone
   try rw[hxd]at hxq
   simp[go_sem,h0,h6,h7,h8,hv,hh,hlt,hxd]
   refine yqi rfl x (b:=b++(l.take q).flatMap encB) (by simp[go_sem]) hid (by simp[go_sem,hv]) (by simp[go_sem,hh]) (by rw[List.length_append];omega) hxq fun s2 hv2 hh2=>?_
   simp[go_sem,h0,h6,h7,h8,hv2,hh2,hlt,yro hlt (show l.length≤maxLen by unfold maxLen;omega)]
   refine⟨l.length - (q+1),by omega,q+1,by omega,rfl,rfl,?_⟩
   rw[hone]
 · have htk:l.take q=l:=List.take_of_length_le (by omega)
   rw[htk]at hh
   simp[go_sem,h0,h6,h7,h8,hv,hh,hlt]
   refine PostIn.normal (r:=.tup []) (by simp[go_sem,resIn]) ?_
   exact hK _ (by simp[go_sem,hv]) (by simp[go_sem,hv,hh])
theorem yqv {G:Ctx} (hG:G.P=prog) {st:St} {dst:Option Tmp} {K:St→Prop} {id v:Nat} {b:Bytes} (x:(List Int)) (hd:dstOK G.n dst) (hid:id < 20000) (hv:st.ver id=v) (hh:st.h id=.box [bys b]) (hsz:b.length≤9000000000000) (hx:x.length≤100000000000∧(x.flatMap encI).length≤30000000000000)
 (hK:∀ s,s.ver id=v→s.h id=.box [bys (b++encIs x)]→K ((st.mem s).put dst (.tup []))):CallSem G 198 [.rptr id v 0 0,ints x] dst K st:=by
 obtain⟨P,w0,S0,nn,rnd,ids,e0⟩:=G
 subst hG
 refine CallSem.inline 20000 func198 rfl rfl ntmps198 (congrArg Array.toList results198) (by simp) hd fun e1=>AWp.of_vc [] ?_
 simp[go_sem,hv,hh]
 refine cpu (zzu b x (by omega) (by omega) (by omega)) ?_
 simp[go_sem,hv,hh]
 refine PostIn.normal (r:=.tup []) (by simp[go_sem,resIn]) ?_
 exact hK _ (by simp[go_sem,hv]) (by simp[go_sem,hv,hh])
theorem zcg {G:Ctx} (hG:G.P=prog) {st:St} {dst:Option Tmp} {K:St→Prop} {id v:Nat} {b:Bytes} (l:List (List Int)) (hd:dstOK G.n dst) (hid:id < 20000) (hv:st.ver id=v) (hh:st.h id=.box [bys b]) (hsz:b.length+(l.flatMap encIs).length≤9000000000000) (hl:l.length≤100) (hx:∀ x∈l,x.length≤100000000000∧(x.flatMap encI).length≤30000000000000)
 (hK:∀ s,s.ver id=v→s.h id=.box [bys (b++l.flatMap encIs)]→K ((st.mem s).put dst (.tup []))):CallSem G 197 [.fn (.func 198) [.rptr id v 0 0] [],.lst 1 (l.map ints)] dst K st:=by
 obtain⟨P,w0,S0,nn,rnd,ids,e0⟩:=G
 subst hG
 refine CallSem.inline 20000 func197 rfl rfl ntmps197 (congrArg Array.toList results197) (by simp) hd fun e1=>AWp.of_vc [] ?_
 simp[go_sem,hv,hh]
 refine AWp.loop_vc [] (fun m s=>∃ q:Nat,q≤l.length∧m=l.length - q∧s.σ 0=.fn (.func 198) [.rptr id v 0 0] []∧s.σ 6=.lst 1 (l.map ints)∧s.σ 7=I l.length∧s.σ 8=I q∧s.ver id=v∧s.h id=.box [bys (b++(l.take q).flatMap encIs)]) l.length ⟨0,by simp[go_sem,hv,hh]⟩ ?_
 clear hv hh
 rintro m s ⟨q,hq,rfl,h0,h6,h7,h8,hv,hh⟩
 by_cases hlt:q < l.length
 · have hone:=zuf encIs l q hlt
   have hpre:=zwp encIs l q
   have hmem:l[q]∈l:=List.getElem_mem hlt
   have hxq:=hx _ hmem
   obtain⟨x,hxd⟩:∃ x,l[q]=x:=⟨_,rfl⟩
   rw[hxd]at hone
   try rw[hxd]at hxq
   simp[go_sem,h0,h6,h7,h8,hv,hh,hlt,hxd]
   refine yqv rfl x (b:=b++(l.take q).flatMap encIs) (by simp[go_sem]) hid (by simp[go_sem,hv]) (by simp[go_sem,hh]) (by rw[List.length_append];omega) hxq fun s2 hv2 hh2=>?_
   simp[go_sem,h0,h6,h7,h8,hv2,hh2,hlt,yro hlt (show l.length≤maxLen by unfold maxLen;omega)]
   refine⟨l.length - (q+1),by omega,q+1,by omega,rfl,rfl,?_⟩
   rw[hone]
 · have htk:l.take q=l:=List.take_of_length_le (by omega)
   rw[htk]at hh
   simp[go_sem,h0,h6,h7,h8,hv,hh,hlt]
   refine PostIn.normal (r:=.tup []) (by simp[go_sem,resIn]) ?_
   exact hK _ (by simp[go_sem,hv]) (by simp[go_sem,hv,hh])
theorem yqt {G:Ctx} (hG:G.P=prog) {st:St} {dst:Option Tmp} {K:St→Prop} {id v:Nat} (x:Int) (hd:dstOK G.n dst) (hid:id < 20000) (hv:st.ver id=v) (hh:st.h id=.box [.v (.slice none 0 0)])
 (hK:∀ s,s.ver id=v→s.h id=.box [bys (encI x)]→K ((st.mem s).put dst (.tup []))):CallSem G 192 [.rptr id v 0 0,I x] dst K st:=by
 obtain⟨P,w0,S0,nn,rnd,ids,e0⟩:=G
 subst hG
 refine CallSem.inline 20000 func192 rfl rfl ntmps192 (congrArg Array.toList results192) (by simp) hd fun e1=>AWp.of_vc [] ?_
 simp[go_sem,hv,hh]
 refine CallSem.by (zzt [] x (by simp)) ⟨.nil _,.refl _,trivial⟩ (by simp[go_sem]) ?_
 simp[go_sem,hv,hh]
 refine PostIn.normal (r:=.tup []) (by simp[go_sem,resIn]) ?_
 exact hK _ (by simp[go_sem,hv]) (by simp[go_sem,hv,hh])
theorem zce {G:Ctx} (hG:G.P=prog) {st:St} {dst:Option Tmp} {K:St→Prop} {id v:Nat} (x:Int) (hd:dstOK G.n dst) (hid:id < 20000) (hv:st.ver id=v) (hh:st.h id=.box [.v (.slice none 0 0)])
 (hK:∀ s,s.ver id=v→s.h id=.box [bys (encI x)]→K ((st.mem s).put dst (.tup []))):CallSem G 191 [.fn (.func 192) [.rptr id v 0 0] [],.lst 1 [I x]] dst K st:=by
 obtain⟨P,w0,S0,nn,rnd,ids,e0⟩:=G
 subst hG
 refine CallSem.inline 20000 func191 rfl rfl ntmps191 (congrArg Array.toList results191) (by simp) hd fun e1=>AWp.of_vc [] ?_
 simp[go_sem,hv,hh]
 refine AWp.loop_vc [] (fun m s=>∃ q:Nat,q≤1∧m=1 - q∧s.σ 0=.fn (.func 192) [.rptr id v 0 0] []∧s.σ 6=.lst 1 [I x]∧s.σ 7=I 1∧s.σ 8=I q∧s.ver id=v∧s.h id=.box [if q=0 then .v (.slice none 0 0) else bys (encI x)]) 1 ⟨0,by simp[go_sem,hv,hh]⟩ ?_
 clear hv hh
 rintro m s ⟨q,hq,rfl,h0,h6,h7,h8,hv,hh⟩
 by_cases hlt:q=0
 · subst hlt
   simp only[if_true]at hh
   simp[go_sem,h0,h6,h7,h8,hv,hh]
   refine yqt rfl x (by simp[go_sem]) hid (by simp[go_sem,hv]) (by simp[go_sem,hh]) fun s2 hv2 hh2=>?_
   simp[go_sem,h0,h6,h7,h8,hv2,hh2]
   exact⟨1,by omega,by simp;decide⟩
 · obtain rfl:q=1:=by omega
   rw[if_neg (by omega)]at hh
   simp[go_sem,h0,h6,h7,h8,hv,hh]
   refine PostIn.normal (r:=.tup []) (by simp[go_sem,resIn]) ?_
   exact hK _ (by simp[go_sem,hv]) (by simp[go_sem,hv,hh])
def bkE (e:Evt):Nat:=e.room.length+e.sender.length+e.key.length+e.prev.length+e.auth.length+bkC e.content+e.sig.server.length
def SmE (e:Evt):Prop:=bkE e≤9000000
theorem SmE.c {e:Evt} (h:SmE e):SmC e.content:=by unfold SmE bkE at h;unfold SmC;omega
def encE (e:Evt):Bytes:=encI e.id++encS e.room++encS e.sender++encI e.kind++encB e.state++encS e.key++encI e.time++encI e.depth++encIs e.prev++encIs e.auth++encS (encC e.content)++encI e.hash++encS e.sig.server++encI e.sig.sum
theorem zio (l:List Int):(encIs l).length≤10+10 * l.length:=by
 have h1:=zim l.length
 have h2:=zin l
 simp only[encIs,List.length_append];omega
theorem strNums (l:Bytes):(l.map b8).mapM zfk=some (l.map fun b=>(b.toNat:Int)):=by
 induction l with
 | nil=>rfl
 | cons b l ih=>simp[List.mapM_cons,ih,b8,zfk]
theorem strOf (l:Bytes):strOfNums (l.map fun b=>(b.toNat:Int))=⟨l.toArray⟩:=by
 unfold strOfNums
 rw[List.map_map]
 congr 2
 exact (List.map_congr_left (fun b _=>by simp)).trans (List.map_id l)
theorem y_conv {P:Program} (s d:TypeId) (l:Bytes):zhg P s d (bys l)=if ((tElem P s).bind (tInt P))=some .u8∧tStr P d=true then some (.v (.string ⟨l.toArray⟩)) else none:=by
 show (if _ then ((l.map b8).mapM zfk).map (fun ns=>AV.v (.string (strOfNums ns))) else none)=_
 rw[strNums]
 simp only[Option.map_some,strOf]
theorem ydl (c:Bool) (l:Bytes) (f:ByteArray→Prop) (no:Prop):zuc c (bys l) f no=no:=by cases c<;>rfl
attribute [go_sem] y_conv ydl
theorem ziu (e:Evt) (hs:SmE e):AC prog 128 [ev e] (bys (encE e)):=by
 refine AC.ob func128 ntmps128 results128 (zzi (zyh _)) (zw0 _) fun w S'=>AWp.of_vc [5] ?_
 have hsc:=hs.c
 have hcl:=zil hsc
 unfold SmE bkE at hs
 have l1:=zir e.room
 have l2:=zir e.sender
 have l3:=zir e.key
 have l4:=zio e.prev
 have l5:=zio e.auth
 have l6:=zir (encC e.content)
 have l7:=zir e.sig.server
 have m1:=zim e.id
 have m2:=zim e.kind
 have m3:=zik e.state
 have m4:=zim e.time
 have m5:=zim e.depth
 have m6:=zim e.hash
 have m7:=zin e.prev
 have m9:=zim e.sig.sum
 have m8:=zin e.auth
 simp[go_sem]
 refine zce rfl e.id (id:=5) (v:=1) (by simp[go_sem]) (by omega) (by simp[go_sem]) (by simp[go_sem]) fun s1 hv1 hb1=>?_
 obtain⟨Y1,hY1⟩:∃ Y1,encI e.id=Y1:=⟨_,rfl⟩
 have nY1:Y1.length=(encI e.id).length:=by rw[← hY1]
 rw[hY1]at hb1
 simp[go_sem,hv1,hb1]
 have n2:([e.room,e.sender].flatMap encS).length=(encS e.room).length+(encS e.sender).length:=by simp[List.flatMap_cons]
 refine zci rfl [e.room,e.sender] (id:=5) (v:=1) (b:=Y1) (by simp[go_sem]) (by omega) (by simp[go_sem,hv1,hb1]) (by simp[go_sem,hv1,hb1]) (by rw[n2];omega) (by simp) (fun x hx=>by simp only[List.mem_cons,List.not_mem_nil,or_false]at hx;rcases hx with rfl|rfl<;>omega) fun s2 hv2 hb2=>?_
 obtain⟨Y2,hY2⟩:∃ Y2,Y1++[e.room,e.sender].flatMap encS=Y2:=⟨_,rfl⟩
 have nY2:Y2.length=(Y1:Bytes).length+((encS e.room).length+(encS e.sender).length):=by rw[← hY2,List.length_append,n2]
 rw[hY2]at hb2
 simp[go_sem,hv2,hb2]
 have n3:([e.kind].flatMap encI).length=(encI e.kind).length:=by simp[List.flatMap_cons]
 refine zcf rfl [e.kind] (id:=5) (v:=1) (b:=Y2) (by simp[go_sem]) (by omega) (by simp[go_sem,hv2,hb2]) (by simp[go_sem,hv2,hb2]) (by rw[n3];omega) (by simp) (fun _ _=>trivial) fun s3 hv3 hb3=>?_
 obtain⟨Y3,hY3⟩:∃ Y3,Y2++[e.kind].flatMap encI=Y3:=⟨_,rfl⟩
 have nY3:Y3.length=(Y2:Bytes).length+((encI e.kind).length):=by rw[← hY3,List.length_append,n3]
 rw[hY3]at hb3
 simp[go_sem,hv3,hb3]
 have n4:([e.state].flatMap encB).length=(encB e.state).length:=by simp[List.flatMap_cons]
 refine zcc rfl [e.state] (id:=5) (v:=1) (b:=Y3) (by simp[go_sem]) (by omega) (by simp[go_sem,hv3,hb3]) (by simp[go_sem,hv3,hb3]) (by rw[n4];omega) (by simp) (fun _ _=>trivial) fun s4 hv4 hb4=>?_
 obtain⟨Y4,hY4⟩:∃ Y4,Y3++[e.state].flatMap encB=Y4:=⟨_,rfl⟩
 have nY4:Y4.length=(Y3:Bytes).length+((encB e.state).length):=by rw[← hY4,List.length_append,n4]
 rw[hY4]at hb4
 simp[go_sem,hv4,hb4]
 have n5:([e.key].flatMap encS).length=(encS e.key).length:=by simp[List.flatMap_cons]
 refine zci rfl [e.key] (id:=5) (v:=1) (b:=Y4) (by simp[go_sem]) (by omega) (by simp[go_sem,hv4,hb4]) (by simp[go_sem,hv4,hb4]) (by rw[n5];omega) (by simp) (fun x hx=>by simp only[List.mem_cons,List.not_mem_nil,or_false]at hx;rcases hx with rfl<;>omega) fun s5 hv5 hb5=>?_
 obtain⟨Y5,hY5⟩:∃ Y5,Y4++[e.key].flatMap encS=Y5:=⟨_,rfl⟩
 have nY5:Y5.length=(Y4:Bytes).length+((encS e.key).length):=by rw[← hY5,List.length_append,n5]
 rw[hY5]at hb5
 simp[go_sem,hv5,hb5]
 have n6:([e.time,e.depth].flatMap encI).length=(encI e.time).length+(encI e.depth).length:=by simp[List.flatMap_cons]
 refine zcf rfl [e.time,e.depth] (id:=5) (v:=1) (b:=Y5) (by simp[go_sem]) (by omega) (by simp[go_sem,hv5,hb5]) (by simp[go_sem,hv5,hb5]) (by rw[n6];omega) (by simp) (fun _ _=>trivial) fun s6 hv6 hb6=>?_
 obtain⟨Y6,hY6⟩:∃ Y6,Y5++[e.time,e.depth].flatMap encI=Y6:=⟨_,rfl⟩
 have nY6:Y6.length=(Y5:Bytes).length+((encI e.time).length+(encI e.depth).length):=by rw[← hY6,List.length_append,n6]
 rw[hY6]at hb6
 simp[go_sem,hv6,hb6]
 have n7:([e.prev,e.auth].flatMap encIs).length=(encIs e.prev).length+(encIs e.auth).length:=by simp[List.flatMap_cons]
 refine zcg rfl [e.prev,e.auth] (id:=5) (v:=1) (b:=Y6) (by simp[go_sem]) (by omega) (by simp[go_sem,hv6,hb6]) (by simp[go_sem,hv6,hb6]) (by rw[n7];omega) (by simp) (fun x hx=>by simp only[List.mem_cons,List.not_mem_nil,or_false]at hx;rcases hx with rfl|rfl<;>omega) fun s7 hv7 hb7=>?_
 obtain⟨Y7,hY7⟩:∃ Y7,Y6++[e.prev,e.auth].flatMap encIs=Y7:=⟨_,rfl⟩
 have nY7:Y7.length=(Y6:Bytes).length+((encIs e.prev).length+(encIs e.auth).length):=by rw[← hY7,List.length_append,n7]
 rw[hY7]at hb7
 simp[go_sem,hv7,hb7]
 refine cpu (zit e.content hsc) ?_
 simp[go_sem,hv7,hb7]
 have n8:([(encC e.content)].flatMap encS).length=(encS (encC e.content)).length:=by simp[List.flatMap_cons]
 refine zci rfl [(encC e.content)] (id:=5) (v:=1) (b:=Y7) (by simp[go_sem]) (by omega) (by simp[go_sem,hv7,hb7]) (by simp[go_sem,hv7,hb7]) (by rw[n8];omega) (by simp) (fun x hx=>by simp only[List.mem_cons,List.not_mem_nil,or_false]at hx;rcases hx with rfl<;>omega) fun s8 hv8 hb8=>?_
 obtain⟨Y8,hY8⟩:∃ Y8,Y7++[(encC e.content)].flatMap encS=Y8:=⟨_,rfl⟩
 have nY8:Y8.length=(Y7:Bytes).length+((encS (encC e.content)).length):=by rw[← hY8,List.length_append,n8]
 rw[hY8]at hb8
 simp[go_sem,hv8,hb8]
 have n9:([e.hash].flatMap encI).length=(encI e.hash).length:=by simp[List.flatMap_cons]
 refine zcf rfl [e.hash] (id:=5) (v:=1) (b:=Y8) (by simp[go_sem]) (by omega) (by simp[go_sem,hv8,hb8]) (by simp[go_sem,hv8,hb8]) (by rw[n9];omega) (by simp) (fun _ _=>trivial) fun s9 hv9 hb9=>?_
 obtain⟨Y9,hY9⟩:∃ Y9,Y8++[e.hash].flatMap encI=Y9:=⟨_,rfl⟩
 have nY9:Y9.length=(Y8:Bytes).length+((encI e.hash).length):=by rw[← hY9,List.length_append,n9]
 rw[hY9]at hb9
 simp[go_sem,hv9,hb9]
 have n10:([e.sig.server].flatMap encS).length=(encS e.sig.server).length:=by simp[List.flatMap_cons]
 refine zci rfl [e.sig.server] (id:=5) (v:=1) (b:=Y9) (by simp[go_sem]) (by omega) (by simp[go_sem,hv9,hb9]) (by simp[go_sem,hv9,hb9]) (by rw[n10];omega) (by simp) (fun x hx=>by simp only[List.mem_cons,List.not_mem_nil,or_false]at hx;rcases hx with rfl<;>omega) fun s10 hv10 hb10=>?_
 obtain⟨Y10,hY10⟩:∃ Y10,Y9++[e.sig.server].flatMap encS=Y10:=⟨_,rfl⟩
 have nY10:Y10.length=(Y9:Bytes).length+((encS e.sig.server).length):=by rw[← hY10,List.length_append,n10]
 rw[hY10]at hb10
 simp[go_sem,hv10,hb10]
 have n11:([e.sig.sum].flatMap encI).length=(encI e.sig.sum).length:=by simp[List.flatMap_cons]
 refine zcf rfl [e.sig.sum] (id:=5) (v:=1) (b:=Y10) (by simp[go_sem]) (by omega) (by simp[go_sem,hv10,hb10]) (by simp[go_sem,hv10,hb10]) (by rw[n11];omega) (by simp) (fun _ _=>trivial) fun s11 hv11 hb11=>?_
 obtain⟨Y11,hY11⟩:∃ Y11,Y10++[e.sig.sum].flatMap encI=Y11:=⟨_,rfl⟩
 have nY11:Y11.length=(Y10:Bytes).length+((encI e.sig.sum).length):=by rw[← hY11,List.length_append,n11]
 rw[hY11]at hb11
 simp[go_sem,hv11,hb11]
 refine PostR.ret ?_
 have hE:encE e=Y11:=by
  unfold encE
  rw[← hY11,← hY10,← hY9,← hY8,← hY7,← hY6,← hY5,← hY4,← hY3,← hY2,← hY1]
  simp
 rw[hE]
 simp[go_sem,hv11,hb11]
theorem encE_len {e:Evt} (hs:SmE e):(encE e).length≤3000000000:=by
 have hcl:=zil hs.c
 unfold SmE bkE at hs
 have l1:=zir e.room
 have l2:=zir e.sender
 have l3:=zir e.key
 have l4:=zio e.prev
 have l5:=zio e.auth
 have l6:=zir (encC e.content)
 have l7:=zir e.sig.server
 have m1:=zim e.id
 have m2:=zim e.kind
 have m3:=zik e.state
 have m4:=zim e.time
 have m5:=zim e.depth
 have m6:=zim e.hash
 have m9:=zim e.sig.sum
 simp only[encE,List.length_append]
 omega
theorem ze0 (e:Evt):bkE (yk4 e)≤bkE e:=by
 have:=bk_strip e.kind e.content
 simp only[bkE,yk4];omega
theorem SmE.strip {e:Evt} (h:SmE e):SmE (yk4 e):=Nat.le_trans (ze0 e) h
def bareE (e:Evt):Evt:={ yk4 e with id:=0,sig:=⟨[],0⟩ }
def idOf (e:Evt):Int:=sumB (encE (bareE e))
theorem SmE.bare {e:Evt} (h:SmE e):SmE (bareE e):=by
 have:=h.strip
 unfold SmE bkE at this ⊢
 simp only[bareE,List.length_nil]at this ⊢
 omega
def signE (e:Evt) (srv:Bytes):Evt :=
 let a:={ e with hash:=hashE e }
 let b:={ a with id:=idOf a }
 { b with sig:=⟨srv,b.id⟩ }
theorem zne (e:Evt) (hs:SmE e):AC prog 70 [ev e] (I (hashE e)):=by
 refine AC.ob func70 ntmps70 results70 (zzi (zyh _)) (zx1 _) fun w S'=>AWp.of_vc [] ?_
 have hcl:=zil hs.c
 simp[go_sem]
 refine cpu (zit e.content hs.c) ?_
 simp[go_sem]
 refine cpu (sum_ac (encC e.content) (by omega)) ?_
 simp[go_sem]
 refine PostR.ret ?_
 simp[go_sem,hashE]
theorem ygc (e:Evt) (hs:SmE e):AC prog 36 [ev e] (I (hashE e)):=by
 refine AC.ob func36 ntmps36 results36 (zzi (zyh _)) (zx1 _) fun w S'=>AWp.of_vc [] ?_
 have hcl:=zil hs.c
 simp[go_sem]
 refine cpu (yf2 e.content hs.c) ?_
 simp[go_sem]
 refine cpu (rsum_ac (encC e.content) (by omega)) ?_
 simp[go_sem]
 refine PostR.ret ?_
 simp[go_sem,hashE]
theorem yrb (e:Evt) (hs:SmE e):AC prog 41 [ev e] (B (yra e)):=by
 refine AC.ob func41 ntmps41 results41 (zzi (zyh _)) (zx0 _) fun w S'=>AWp.of_vc [] ?_
 simp[go_sem]
 refine da ?_
 simp[go_sem]
 refine CalmThen.pure (zne e hs) rfl ?_
 simp[go_sem]
 refine PostR.ret ?_
 simp[go_sem,yra]
theorem yht (e:Evt) (hs:SmE e):AC prog 19 [ev e] (B (yra e)):=by
 refine AC.ob func19 ntmps19 results19 (zzi (zyh _)) (zx0 _) fun w S'=>AWp.of_vc [] ?_
 simp[go_sem]
 refine da ?_
 simp[go_sem]
 refine CalmThen.pure (ygc e hs) rfl ?_
 simp[go_sem]
 refine PostR.ret ?_
 simp[go_sem,yra]
theorem yk5 (e:Evt) (hs:SmE e):AC prog 42 [ev e] (ev (yk4 e)):=by
 refine AC.ob func42 ntmps42 results42 (zzi (zyh _)) (zyh _) fun w S'=>AWp.of_vc [1] ?_
 simp[go_sem]
 refine cpu (yk2 e.kind e.content hs.c) ?_
 unfold yk4
 generalize yk1 e.kind e.content=c
 simp[go_sem,evc,ctc]
 refine PostR.ret ?_
 simp[go_sem,evc,ctc]
theorem ygt (e:Evt):AC prog 18 [ev e] (ev (yk4 e)):=by
 refine AC.ob func18 ntmps18 results18 (zzi (zyh _)) (zyh _) fun w S'=>AWp.of_vc [1] ?_
 simp[go_sem]
 refine cpu (ygs e.kind e.content) ?_
 unfold yk4
 generalize yk1 e.kind e.content=c
 simp[go_sem,evc,ctc]
 refine PostR.ret ?_
 simp[go_sem,evc,ctc]
theorem znq (e:Evt) (hs:SmE e):AC prog 73 [ev e] (I (idOf e)):=by
 refine AC.ob func73 ntmps73 results73 (zzi (zyh _)) (zx1 _) fun w S'=>AWp.of_vc [] ?_
 have hb:=encE_len hs.bare
 simp[go_sem]
 refine cpu (yk5 e hs) ?_
 have hbe:=ziu (bareE e) hs.bare
 unfold idOf
 unfold bareE at hbe hb ⊢
 generalize yk4 e=x at hbe hb ⊢
 generalize encE { x with id:=0,sig:=⟨[],0⟩ }=Y at hbe hb ⊢
 simp[go_sem,evc]
 refine cpu hbe ?_
 simp[go_sem]
 refine cpu (sum_ac Y (by omega)) ?_
 simp[go_sem]
 exact rets
theorem sign_ac (e:Evt) (srv:Bytes) (hs:SmE e):AC prog 111 [ev e,S srv] (ev (signE e srv)):=by
 refine AC.ob func111 ntmps111 results111 (zzj (zyh _) (zx2 _)) (zyh _) fun w S'=>AWp.of_vc [2] ?_
 have hs1:SmE { e with hash:=hashE e }:=hs
 simp[go_sem]
 refine cpu (zne e hs) ?_
 have hid:=znq { e with hash:=hashE e } hs1
 unfold signE
 generalize hashE e=h at hid ⊢
 simp only at hid ⊢
 simp[go_sem,evc]
 refine cpu hid ?_
 generalize idOf _=i
 simp[go_sem,evc]
 refine PostR.ret ?_
 simp[go_sem,evc]
def tornE (a b:Evt):Bool:=!(decide (yk4 a=yk4 b))||(yra a&&(yra b&&!(decide (a=b))))
theorem yjd {e:Evt} (h:SmE e):e.content.levels.users.length≤maxLen∧e.content.levels.kinds.length≤maxLen:=by
 have:=(ylf h.c).2
 unfold maxLen
 omega
theorem torn_ac (a b:Evt) (ha:SmE a) (hb:SmE b):AC prog 11 [ev a,ev b] (B (tornE a b)):=by
 refine AC.ob func11 ntmps11 results11 (zzj (zyh _) (zyh _)) (zx0 _) fun w S'=>AWp.of_vc [] ?_
 have u1:=yjd hb
 have u2:=yjd hb.strip
 simp[go_sem]
 refine da ?_
 simp[go_sem]
 refine CalmThen.pure (ygt a) rfl ?_
 simp[go_sem]
 refine CalmThen.pure (ygt b) rfl ?_
 simp[go_sem]
 refine CalmThen.pure (ygp (yk4 a) (yk4 b) u2.1 u2.2) rfl ?_
 unfold tornE
 by_cases h1:yk4 a=yk4 b
 case neg =>
  simp[go_sem,h1]
  exact rets
 simp[go_sem,h1]
 refine CalmThen.pure (yht a ha) rfl ?_
 cases h2:yra a with
 | false =>
  simp[go_sem,h1]
  exact rets
 | true =>
  simp[go_sem,h1]
  refine CalmThen.pure (yht b hb) rfl ?_
  cases h3:yra b with
  | false =>
   simp[go_sem,h1]
   exact rets
  | true =>
   simp[go_sem,h1]
   refine CalmThen.pure (ygp a b u1.1 u1.2) rfl ?_
   by_cases h4:a=b
   · simp[go_sem,h4]
     refine PostR.ret ?_
     simp[go_sem,h4]
   · simp[go_sem,h4]
     refine PostR.ret ?_
     simp[go_sem,h4]
theorem zjk (x:Bytes) (l h:Nat):(ByteArray.mk x.toArray).extract l h=⟨((x.drop l).take (h - l)).toArray⟩:=by
 apply ByteArray.ext
 simp[ByteArray.data_extract,List.extract_toArray,List.extract_eq_take_drop]
theorem mk_getE (s:Bytes) (q:Nat) (h:q < (ByteArray.mk s.toArray).size):(ByteArray.mk s.toArray)[q]'h=s[q]'(show q < s.length from h):=rfl
attribute [go_sem] mk_getE
theorem AC.of_same {P:Program} {f:FuncId} {args:List Value} {r:Value} (hfn:∃ fn,P.funcs[f]? = some fn∧fn.body.isSome=true∧(fn.name == "runtime.NumGoroutine")=false)
 (h:∀ w,Calls P f args.toArray w fun e w'=>e=.returned r∧w'=w):AC P f (args.map .v) (.v r):=by
 refine⟨hfn,fun p hp=>?_,zzh _,fun S w vs hS hl hv=>?_⟩
 · obtain⟨x,_,rfl⟩:=List.mem_map.1 hp;exact zzh _
 · have:vs=args.toArray:=by
    apply Array.ext
    · simpa using hl
    · intro i h1 h2
      have hi:i < args.length:=by simpa using h2
      have:=hv i (.v args[i]) (by simp[hi])
      have:=this.v_inv
      simp[Array.getD_eq_getD_getElem?,h1]at this
      simpa using this
   subst this
   exact (h w).mono fun e w' ⟨h1,h2⟩=>⟨r,S,h1,by subst h2;exact Go.RowKit.Below.refl _ _,fun _ h=>h,fun _ h=>.inl h,by subst h2;exact hS,.v _⟩
def idxB (l:Bytes) (c:UInt8):Int:=Lib.indexByte l c
theorem yjc (s:Bytes) (c:UInt8):AC prog 179 [S s,b8 c] (I (idxB s c)):=by
 refine AC.of_same (args:=[.string ⟨s.toArray⟩,.int .u8 c.toNat]) ⟨_,func179,rfl,rfl⟩ fun w=>?_
 have hc:((c.toNat:Int).toNat).toUInt8=c:=by simp
 show Calls prog 179 #[.string ⟨s.toArray⟩,.int .u8 c.toNat] w _
 go_enter func179,ntmps179
 go_wp2
 rw[run_callFunc_extern func237 (by kernel_rfl) (by kernel_rfl) (by kernel_rfl) (e:=Extern.BytealgIndexByte.indexByte) (by kernel_rfl),Lib.run_indexByteString]
 simp only[Result.andThen]
 rw[Oper.upon_value]
 go_wp2
 go_ret
 exact⟨rfl,rfl⟩
theorem strIB_ac (s:Bytes) (c:UInt8):AC prog 116 [S s,b8 c] (I (idxB s c)):=by
 refine AC.ob func116 ntmps116 results116 (zzj (zx2 _) (zx5 _)) (zx1 _) fun w S'=>AWp.of_vc [] ?_
 simp[go_sem]
 refine cpu (yjc s c) ?_
 simp[go_sem]
 exact rets
def zqi (c:UInt8):Bool:=(decide (97≤c.toNat)&&decide (c.toNat≤122))||(decide (48≤c.toNat)&&decide (c.toNat≤57))
def locP (c:UInt8):Bool:=c.toNat==95||c.toNat==46||c.toNat==45||c.toNat==61
def srvP (c:UInt8):Bool:=c.toNat==46||c.toNat==45
theorem zqj (c:UInt8):AC prog 184 [b8 c] (B (zqi c)):=by
 refine AC.ob func184 ntmps184 results184 (zzi (zx5 _)) (zx0 _) fun w S'=>AWp.of_vc [] ?_
 unfold zqi b8
 generalize c.toNat=n
 by_cases h1:97≤n<;>by_cases h2:n≤122<;>by_cases h3:48≤n<;>by_cases h4:n≤57 <;>
  (have i1:(97≤(n:Int))=(97≤n):=by simp;omega
   have i2:((n:Int)≤122)=(n≤122):=by simp;omega
   have i3:(48≤(n:Int))=(48≤n):=by simp;omega
   have i4:((n:Int)≤57)=(n≤57):=by simp;omega
   simp[go_sem,i1,i2,i3,i4,h1,h2,h3,h4]
   refine PostR.ret ?_
   simp[go_sem,i1,i2,i3,i4,h1,h2,h3,h4])
theorem locC_ac (c:UInt8):AC prog 182 [b8 c] (B (locP c)):=by
 refine AC.ob func182 ntmps182 results182 (zzi (zx5 _)) (zx0 _) fun w S'=>AWp.of_vc [] ?_
 unfold locP b8
 generalize c.toNat=n
 by_cases h1:n=95
 · subst h1;simp[go_sem];refine PostR.ret ?_;simp[go_sem]
 by_cases h2:n=46
 · subst h2;simp[go_sem];refine PostR.ret ?_;simp[go_sem]
 by_cases h3:n=45
 · subst h3;simp[go_sem];refine PostR.ret ?_;simp[go_sem]
 by_cases h4:n=61
 · subst h4;simp[go_sem];refine PostR.ret ?_;simp[go_sem]
 have i1:((n:Int)==95)=false:=by simp;omega
 have i2:((n:Int)==46)=false:=by simp;omega
 have i3:((n:Int)==45)=false:=by simp;omega
 have i4:((n:Int)==61)=false:=by simp;omega
 have e1:¬ (n:Int)=95:=by omega
 have e2:¬ (n:Int)=46:=by omega
 have e3:¬ (n:Int)=45:=by omega
 have e4:¬ (n:Int)=61:=by omega
 simp[go_sem,i1,i2,i3,i4,h1,h2,h3,h4,e1,e2,e3,e4]
 refine PostR.ret ?_
 simp[go_sem,i1,i2,i3,i4,h1,h2,h3,h4,e1,e2,e3,e4]
theorem srvC_ac (c:UInt8):AC prog 183 [b8 c] (B (srvP c)):=by
 refine AC.ob func183 ntmps183 results183 (zzi (zx5 _)) (zx0 _) fun w S'=>AWp.of_vc [] ?_
 unfold srvP b8
 generalize c.toNat=n
 by_cases h2:n=46
 · subst h2;simp[go_sem];refine PostR.ret ?_;simp[go_sem]
 by_cases h3:n=45
 · subst h3;simp[go_sem];refine PostR.ret ?_;simp[go_sem]
 have e2:¬ (n:Int)=46:=by omega
 have e3:¬ (n:Int)=45:=by omega
 have i2:((n:Int)==46)=false:=by simp;omega
 have i3:((n:Int)==45)=false:=by simp;omega
 have j2:(n==46)=false:=by simp[h2]
 have j3:(n==45)=false:=by simp[h3]
 simp[go_sem,h2,h3,e2,e3,i2,i3,j2,j3]
 refine PostR.ret ?_
 simp[go_sem,h2,h3,e2,e3,i2,i3,j2,j3]
def ypu (p:UInt8→Bool) (s:Bytes):Bool:=(decide (1≤s.length)&&decide (s.length≤32))&&s.all fun c=>zqi c||p c
theorem pure_fnc (f:FuncId):Pure (.fn (.func f) [] []):=zym (fun c h=>by cases h) (fun c h=>by cases h)
theorem ypv (p:UInt8→Bool) (f:FuncId) (hp:∀ c,AC prog f [b8 c] (B (p c))) (s:Bytes):AC prog 181 [S s,.fn (.func f) [] []] (B (ypu p s)):=by
 refine AC.ob func181 ntmps181 results181 (zzj (zx2 _) (pure_fnc _)) (zx0 _) fun w S'=>AWp.of_vc [] ?_
 by_cases h1:s.length < 1
 · have hb:ypu p s=false:=by unfold ypu;simp;omega
   have i1:(s.length:Int) < 1:=by omega
   rw[hb]
   simp[go_sem,h1,i1]
   exact rets
 by_cases h2:32 < s.length
 · have hb:ypu p s=false:=by unfold ypu;simp;omega
   have i1:¬ (s.length:Int) < 1:=by omega
   have i2:(32:Int) < s.length:=by omega
   have h1':¬ s=[]:=fun h=>by subst h;simp at h1
   rw[hb]
   simp[go_sem,h1',i1,i2]
   exact rets
 have i1:¬ (s.length:Int) < 1:=by omega
 have i2:¬ (32:Int) < s.length:=by omega
 have h1':¬ s=[]:=fun h=>by subst h;simp at h1
 have hbv:ypu p s=s.all fun c=>zqi c||p c:=by unfold ypu;simp;omega
 rw[hbv]
 simp[go_sem,h1',i1,i2]
 refine AWp.loop_vc [] (fun m t=>∃ q:Nat,q≤s.length∧m=s.length - q∧t.σ 0=S s∧t.σ 1=.fn (.func f) [] []∧t.σ 15=I s.length∧t.σ 16=I q∧(s.take q).all (fun c=>zqi c||p c)=true) s.length ⟨0,by simp[go_sem]⟩ ?_
 rintro m t ⟨q,hq,rfl,h0,h1,h15,h16,hall⟩
 by_cases hlt:q < s.length
 · have hall2:(s.take (q+1)).all (fun c=>zqi c||p c)=(zqi s[q]||p s[q]):=by
    rw[List.take_succ_eq_append_getElem hlt,List.all_append,hall];simp
   have hfull:(zqi s[q]||p s[q])=false→s.all (fun c=>zqi c||p c)=false:=fun h=>by
    rw[List.all_eq_false]
    exact⟨s[q],List.getElem_mem hlt,by simpa using h⟩
   obtain⟨c,hc⟩:∃ c,s[q]=c:=⟨_,rfl⟩
   rw[hc]at hall2 hfull
   simp[go_sem,h0,h1,h15,h16,hlt,hc]
   refine cpu (zqj c) ?_
   cases hl:zqi c with
   | true =>
    rw[hl]at hall2
    simp[go_sem,h0,h1,h15,h16,hlt,hc,yro hlt (show s.length≤maxLen by unfold maxLen;omega)]
    exact⟨s.length - (q+1),by omega,q+1,by omega,rfl,rfl,fun x hx=>by simpa using List.all_eq_true.1 hall2 x hx⟩
   | false =>
    simp[go_sem,h0,h1,h15,h16,hlt,hc]
    refine cpu (hp c) ?_
    cases hpc:p c with
    | true =>
     rw[hl,hpc]at hall2
     simp[go_sem,h0,h1,h15,h16,hlt,hc,yro hlt (show s.length≤maxLen by unfold maxLen;omega)]
     exact⟨s.length - (q+1),by omega,q+1,by omega,rfl,rfl,fun x hx=>by simpa using List.all_eq_true.1 hall2 x hx⟩
    | false =>
     have hb:=hfull (by rw[hl,hpc];rfl)
     rw[hb]
     simp[go_sem,h0,h1,h15,h16,hlt,hc]
     exact rets
 · have htk:s.take q=s:=List.take_of_length_le (by omega)
   rw[htk]at hall
   rw[hall]
   simp[go_sem,h0,h1,h15,h16,hlt]
   exact rets
end Go.Proofs.YthjmjdleecmaeaaGreat
