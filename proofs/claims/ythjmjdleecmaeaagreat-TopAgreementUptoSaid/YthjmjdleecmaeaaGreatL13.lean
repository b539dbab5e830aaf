/- Several texts of the proof in one: Ta, Tt, Tb. No condition. -/
import Derived.Test.YthjmjdleecmaeaaGreatL12
import Derived.Test.YthjmjdleecmaeaaGreatChecked
import Derived.KernelRfl
import Derived.Laws.Strings
set_option linter.unusedSimpArgs false
set_option linter.unusedVariables false
set_option maxHeartbeats 4000000
set_option maxRecDepth 8000
namespace Go.Abs
open Go Go.RowKit
theorem zey {α:Type} (a:α) (K:α→Prop):bindP (some a) K=K a:=zex a K
theorem ztp (b:Bool) (K:Bool→Prop):ztn (.v (.bool b)) K=K b:=zto b K
attribute [go_sem ↓] zey ztp w_move c_move w_assign c_assign w_pick c_pick w_load c_load w_unOp c_unOp yqc yqn yqh zfu w_field yqm zfv w_index yqg zft w_lookup c_lookup a_next a_nil a_move a_assign a_binOp zba zbb zbc a_load za6 a_call a_callF a_append a_slice za5 a_alloc a_store yqp yqq w_clear w_slice c_slice w_clen w_cmin w_cmax c_clen w_call c_call c_binOp c_build zfs w_alloc w_box w_build yqb w_binOp w_make w_store w_append w_mrange w_next w_entry yqw yqx yqy c_next zfx zfy zfz w_skip w_label w_ret w_exit w_region w_draws w_seq w_cond w_block w_loop yq3 yq5 yq2 yqk w_in_ret yqj w_range yqz yq0 w_pi_ret
attribute [go_sem] zua zt9 yda ztx onIter_v ydw ydv ydu ya6 q_sl_ref yew q_fz_osl ybb ydb ydc ych q_ia_osl yc7 q_setIter_σ yes yer List.getLast?_concat
attribute [go_sem] calmV zex zew zto onFn_v onFn2_v ztq zt7 zt6 ztt zts ya5 ya8 ya7 dstOK argAt zth zi6 yps fillL yjt zg3 List.mapM_cons List.mapM_nil Option.pure_def Option.bind_eq_bind List.nodup_nil
attribute [go_sem ↓] yqo w_invoke w_delete w_copy
attribute [go_sem] zbd za9 zbe
attribute [go_sem] yqs zfw ycu ye4 ye5 ybv yq4 yql ydk ydj ycv yck q_lookM ybj ybf zz7 zz9 ybx q_int_or ycc yby yb8 yca q_compl yco q_onKeyI yc8 yc9 q_onMapA ydo ydm ydn q_onArrP yc6 yfi yfh yfg yff
attribute [go_sem] zz4 q_dj_ref yar q_dj_v q_dj_lst yaq q_zeroOK q_inY yd6 yd9 yd8 yd7 yd5 yd4 q_lookup ycl ycm q_lookAV q_setMap_σ yeu yet q_onMapB q_onMap q_onKey ybq ybr ycd ydr ycs yct ydi ydh ydg yb9 ybs ybt zz5 yas yat q_ek_nil q_ek_int q_ek_str q_mem_σ ycp q_mem_h q_fill1 q_upd yde ydf ydd yc3 ybl yfb yak ybi ycx q_ev_tmp yau yav q_put_σ yeb q_put_h yea q_setArr_σ yen yem q_setBox_σ yep yeo q_setH_σ yeq q_setH_h q_start_σ yez q_freeze_σ ya2 ya1 ya4 ya3 q_ownNil_σ yd1 yd0 ybo ybp ybn q_onArr yc4 yc5 yam yag yaj yal yah yai q_nil_v ycw q_ok_v q_ok_lst yc2 q_ok_fn q_ok_ref ydq ydp ydt yds yce ycf ycr ycq zz8 yaa zz6 ybw ycb yb4 yb6 yb7 ybz yb5 yb3 yb2 yb1 yb0 ye0 ye3 ye2 ye1 yab yac q_not q_conv yax yay q_ia_lst q_ix_str ycg yci ycj q_min q_max q_move q_assign q_pick q_load q_binOp q_unOp yan ycn yaz q_field ybu q_index yaw q_slice q_len q_cmin q_cmax q_ia_ref ya0 yad q_natOf q_bound yex yey yao yap q_ldAV q_sl_lst yev q_sl_str q_litAV yae q_store yc0 ycy yc1 ycz q_out_v ydx ydy ydz yeh yeg yei q_o1_v q_o1_agg q_o1_lst q_o1_fn q_o1_ref yej yek yee q_refs_v yec yed yef q_take_v ye6 yfa ye7 ye8 ye9 yfc q_tc_nil yfd q_tc_v q_tc_agg q_tc_lst q_bo_v q_bo_lst q_bo_ref q_fz_v q_fz_lst ybk q_fz_ref ybm q_fz_agg q_fz_fn yba ybe ybc ybd ya9 ybg ybh q_nf_lst
attribute [go_sem] Option.some.injEq exists_eq_left' exists_eq_left if_true if_false true_and and_true List.mem_cons List.not_mem_nil or_false false_or List.map_cons List.map_nil List.nil_append List.cons_append List.append_nil List.length_cons List.length_nil List.all_cons Bool.and_true Bool.true_and Option.bind_some Option.map_some Option.bind_none Option.map_none List.drop_zero List.take_succ_cons List.take_zero List.drop_succ_cons Nat.add_zero Nat.zero_add reduceCtorEq Bool.false_eq_true false_and and_false ite_self
abbrev Bytes:=List UInt8
def S (l:Bytes):AV:=.v (.string ⟨l.toArray⟩)
def I (n:Int):AV:=.v (.int .i64 n)
def B (b:Bool):AV:=.v (.bool b)
def ints (l:List Int):AV:=.lst 1 (l.map I)
def strs (l:List Bytes):AV:=.lst 1 (l.map S)
structure Level where
 user:Bytes
 n:Int
structure KindLevel where
 kind:Int
 n:Int
structure Levels where
 users:List Level
 kinds:List KindLevel
 user:Int
 message:Int
 state:Int
 invite:Int
 kick:Int
 ban:Int
 redact:Int
structure Content where
 text:Bytes
 n:Int
 target:Int
 thread:Bool
 via:Bytes
 allow:List Bytes
 deny:List Bytes
 levels:Levels
structure Sig where
 server:Bytes
 sum:Int
structure Evt where
 id:Int
 room:Bytes
 sender:Bytes
 kind:Int
 state:Bool
 key:Bytes
 time:Int
 depth:Int
 prev:List Int
 auth:List Int
 content:Content
 hash:Int
 sig:Sig
def lvc (x:Level):List AV:=[S x.user,I x.n]
def klc (x:KindLevel):List AV:=[I x.kind,I x.n]
def lvsc (x:Levels):List AV:=[.lst 2 (x.users.map fun u=>.agg (lvc u)),.lst 2 (x.kinds.map fun u=>.agg (klc u)),I x.user,I x.message,I x.state,I x.invite,I x.kick,I x.ban,I x.redact]
def ctc (x:Content):List AV:=[S x.text,I x.n,I x.target,B x.thread,S x.via,strs x.allow,strs x.deny,.lst 2 (x.levels.users.map fun u=>.agg (lvc u)),.lst 2 (x.levels.kinds.map fun u=>.agg (klc u)),
 I x.levels.user,I x.levels.message,I x.levels.state,I x.levels.invite,I x.levels.kick,I x.levels.ban,I x.levels.redact]
def evc (x:Evt):List AV:=[I x.id,S x.room,S x.sender,I x.kind,B x.state,S x.key,I x.time,I x.depth,ints x.prev,ints x.auth,
 S x.content.text,I x.content.n,I x.content.target,B x.content.thread,S x.content.via,strs x.content.allow,strs x.content.deny,.lst 2 (x.content.levels.users.map fun u=>.agg (lvc u)),.lst 2 (x.content.levels.kinds.map fun u=>.agg (klc u)),
 I x.content.levels.user,I x.content.levels.message,I x.content.levels.state,I x.content.levels.invite,I x.content.levels.kick,I x.content.levels.ban,I x.content.levels.redact,I x.hash,S x.sig.server,I x.sig.sum]
def ev (x:Evt):AV:=.agg (evc x)
def evs (l:List Evt):AV:=.lst 29 (l.map ev)
theorem zx1 (n:Int):Pure (I n):=zzh _
theorem zx0 (n:Bool):Pure (B n):=zzh _
theorem zx2 (n:Bytes):Pure (S n):=zzh _
theorem zyr (l:List Int):Pure (ints l):=zyw fun x hx c hc=>by
 obtain⟨n,_,rfl⟩:=List.mem_map.1 hx
 simp only[I,AV.cells,List.mem_singleton]at hc;subst hc;exact zzh _
theorem zzf (l:List Bytes):Pure (strs l):=zyw fun x hx c hc=>by
 obtain⟨n,_,rfl⟩:=List.mem_map.1 hx
 simp only[S,AV.cells,List.mem_singleton]at hc;subst hc;exact zzh _
theorem zyy (x:Level):∀ c∈lvc x,Pure c:=by
 intro c hc;simp only[lvc,List.mem_cons,List.not_mem_nil,or_false]at hc;rcases hc with rfl|rfl<;>exact zzh _
theorem zyt (x:KindLevel):∀ c∈klc x,Pure c:=by
 intro c hc;simp only[klc,List.mem_cons,List.not_mem_nil,or_false]at hc;rcases hc with rfl|rfl<;>exact zzh _
theorem zyx {α:Type} {sz:Nat} {l:List α} {f:α→List AV} (h:∀ x,∀ c∈f x,Pure c):Pure (.lst sz (l.map fun u=>.agg (f u))):=zyw fun x hx c hc=>by
 obtain⟨n,_,rfl⟩:=List.mem_map.1 hx
 exact h n c hc
theorem zyi (x:Evt):∀ c∈evc x,Pure c:=by
 intro c hc
 simp only[evc,List.mem_cons,List.not_mem_nil,or_false]at hc
 rcases hc with rfl|rfl|rfl|rfl|rfl|rfl|rfl|rfl|rfl|rfl|rfl|rfl|rfl|rfl|rfl|rfl|rfl|rfl|rfl|rfl|rfl|rfl|rfl|rfl|rfl|rfl|rfl|rfl|rfl <;>
  first|exact zzh _|exact zyr _|exact zzf _|exact zyx zyy|exact zyx zyt
theorem zyh (x:Evt):Pure (ev x):=zx3 (zyi x)
theorem zyk (l:List Evt):Pure (evs l):=zyw fun x hx c hc=>by
 obtain⟨n,_,rfl⟩:=List.mem_map.1 hx
 exact zyi n c hc
theorem zs9 (st:St) (l:List Int):okAll st (l.map I):=fun c hc=>by obtain⟨n,_,rfl⟩:=List.mem_map.1 hc;rfl
theorem ztd (st:St) (l:List Bytes):okAll st (l.map S):=fun c hc=>by obtain⟨n,_,rfl⟩:=List.mem_map.1 hc;rfl
theorem zs8 (st:St) (l:List Evt):okAll st (l.map ev):=fun c hc=>by obtain⟨n,_,rfl⟩:=List.mem_map.1 hc;rfl
attribute [go_sem] zs9 ztd zs8
attribute [go_sem] S I B ints strs ev evs
theorem evc_len (x:Evt):(evc x).length=29:=rfl
theorem zje (x:Evt):(evc x).take 29=evc x:=rfl
theorem evc_ok (st:St) (x:Evt):(evc x).all (zte st)=true:=rfl
theorem evc_0 (x:Evt):((evc x).drop 0).take 1=[I x.id]:=rfl
theorem evc_1 (x:Evt):((evc x).drop 1).take 1=[S x.room]:=rfl
theorem evc_2 (x:Evt):((evc x).drop 2).take 1=[S x.sender]:=rfl
theorem evc_3 (x:Evt):((evc x).drop 3).take 1=[I x.kind]:=rfl
theorem evc_4 (x:Evt):((evc x).drop 4).take 1=[B x.state]:=rfl
theorem evc_5 (x:Evt):((evc x).drop 5).take 1=[S x.key]:=rfl
theorem evc_6 (x:Evt):((evc x).drop 6).take 1=[I x.time]:=rfl
theorem evc_7 (x:Evt):((evc x).drop 7).take 1=[I x.depth]:=rfl
theorem evc_8 (x:Evt):((evc x).drop 8).take 1=[ints x.prev]:=rfl
theorem evc_9 (x:Evt):((evc x).drop 9).take 1=[ints x.auth]:=rfl
theorem evc_10 (x:Evt):((evc x).drop 10).take 1=[S x.content.text]:=rfl
theorem evc_11 (x:Evt):((evc x).drop 11).take 1=[I x.content.n]:=rfl
theorem evc_12 (x:Evt):((evc x).drop 12).take 1=[I x.content.target]:=rfl
theorem evc_13 (x:Evt):((evc x).drop 13).take 1=[B x.content.thread]:=rfl
theorem evc_14 (x:Evt):((evc x).drop 14).take 1=[S x.content.via]:=rfl
theorem evc_15 (x:Evt):((evc x).drop 15).take 1=[strs x.content.allow]:=rfl
theorem evc_16 (x:Evt):((evc x).drop 16).take 1=[strs x.content.deny]:=rfl
theorem evc_19 (x:Evt):((evc x).drop 19).take 1=[I x.content.levels.user]:=rfl
theorem evc_20 (x:Evt):((evc x).drop 20).take 1=[I x.content.levels.message]:=rfl
theorem evc_21 (x:Evt):((evc x).drop 21).take 1=[I x.content.levels.state]:=rfl
theorem evc_22 (x:Evt):((evc x).drop 22).take 1=[I x.content.levels.invite]:=rfl
theorem evc_23 (x:Evt):((evc x).drop 23).take 1=[I x.content.levels.kick]:=rfl
theorem evc_24 (x:Evt):((evc x).drop 24).take 1=[I x.content.levels.ban]:=rfl
theorem evc_25 (x:Evt):((evc x).drop 25).take 1=[I x.content.levels.redact]:=rfl
theorem evc_26 (x:Evt):((evc x).drop 26).take 1=[I x.hash]:=rfl
theorem evc_27 (x:Evt):((evc x).drop 27).take 1=[S x.sig.server]:=rfl
theorem evc_28 (x:Evt):((evc x).drop 28).take 1=[I x.sig.sum]:=rfl
theorem evc_0' (x:Evt):(evc x).take 1=[I x.id]:=rfl
attribute [go_sem] evc_0' evc_len zje evc_ok evc_0 evc_1 evc_2 evc_3 evc_4 evc_5 evc_6 evc_7 evc_8 evc_9 evc_10 evc_11 evc_12 evc_13 evc_14 evc_15 evc_16 evc_19 evc_20 evc_21 evc_22 evc_23 evc_24 evc_25 evc_26 evc_27 evc_28
end Go.Abs
namespace Go.Proofs.YthjmjdleecmaeaaGreat
open Go Go.Abs Go.Proofs.Tryz
theorem tSize3:tSize prog 3=some 1:=by kernel_rfl
theorem tBytes3:ylk prog 3=some 8:=by kernel_rfl
theorem tAgg3:tAgg prog 3=some false:=by kernel_rfl
theorem tZero3:tZero prog 3=some (Value.int IntKind.i64 0):=by kernel_rfl
theorem tInt3:tInt prog 3=some IntKind.i64:=by kernel_rfl
theorem tByt3:zoq prog 3=false:=by kernel_rfl
theorem tSize4:tSize prog 4=some 1:=by kernel_rfl
theorem tAgg4:tAgg prog 4=some false:=by kernel_rfl
theorem tZero4:tZero prog 4=some (Value.bool false):=by kernel_rfl
theorem tSize5:tSize prog 5=some 1:=by kernel_rfl
theorem tBytes5:ylk prog 5=some 1:=by kernel_rfl
theorem tAgg5:tAgg prog 5=some false:=by kernel_rfl
theorem tZero5:tZero prog 5=some (Value.int IntKind.u8 0):=by kernel_rfl
theorem tInt5:tInt prog 5=some IntKind.u8:=by kernel_rfl
theorem tByt5:zoq prog 5=false:=by kernel_rfl
theorem tSize9:tSize prog 9=some 1:=by kernel_rfl
theorem tBytes9:ylk prog 9=some 16:=by kernel_rfl
theorem tAgg9:tAgg prog 9=some false:=by kernel_rfl
theorem tZero9:tZero prog 9=some (Value.string ⟨#[]⟩):=by kernel_rfl
theorem tStr9:tStr prog 9=true:=by kernel_rfl
theorem tByt9:zoq prog 9=false:=by kernel_rfl
theorem tSize22:tSize prog 22=some 1:=by kernel_rfl
theorem tAgg22:tAgg prog 22=some false:=by kernel_rfl
theorem tZero22:tZero prog 22=some (Value.slice none 0 0):=by kernel_rfl
theorem tElem22:tElem prog 22=some 45:=by kernel_rfl
theorem tSize25:tSize prog 25=some 1:=by kernel_rfl
theorem tAgg25:tAgg prog 25=some false:=by kernel_rfl
theorem tElem25:tElem prog 25=some 48:=by kernel_rfl
theorem tSize26:tSize prog 26=some 1:=by kernel_rfl
theorem tAgg26:tAgg prog 26=some false:=by kernel_rfl
theorem tZero26:tZero prog 26=some (Value.slice none 0 0):=by kernel_rfl
theorem tElem26:tElem prog 26=some 3:=by kernel_rfl
theorem tElem27:tElem prog 27=some 62:=by kernel_rfl
theorem tSize28:tSize prog 28=some 1:=by kernel_rfl
theorem tBytes28:ylk prog 28=some 24:=by kernel_rfl
theorem tAgg28:tAgg prog 28=some false:=by kernel_rfl
theorem tZero28:tZero prog 28=some (Value.slice none 0 0):=by kernel_rfl
theorem tElem28:tElem prog 28=some 62:=by kernel_rfl
theorem tSize32:tSize prog 32=some 9:=by kernel_rfl
theorem tAgg32:tAgg prog 32=some true:=by kernel_rfl
theorem tZero32:tZero prog 32=some (Value.agg #[(Value.string ⟨#[]⟩),(Value.slice none 0 0),(Value.slice none 0 0),(Value.slice none 0 0),(Value.slice none 0 0),(Value.slice none 0 0),(Value.int IntKind.i64 0),(Value.slice none 0 0),(Value.slice none 0 0)]):=by kernel_rfl
theorem yn6:yns prog 32=some [(0,1),(1,1),(2,1),(3,1),(4,1),(5,1),(6,1),(7,1),(8,1)]:=by kernel_rfl
theorem yl7:yls prog 32 0=some (0,9):=by kernel_rfl
theorem yl8:yls prog 32 1=some (1,22):=by kernel_rfl
theorem yl9:yls prog 32 2=some (2,25):=by kernel_rfl
theorem yma:yls prog 32 3=some (3,22):=by kernel_rfl
theorem ymb:yls prog 32 4=some (4,26):=by kernel_rfl
theorem ymc:yls prog 32 5=some (5,28):=by kernel_rfl
theorem ymd:yls prog 32 6=some (6,3):=by kernel_rfl
theorem tSize34:tSize prog 34=some 1:=by kernel_rfl
theorem tAgg34:tAgg prog 34=some false:=by kernel_rfl
theorem tSize35:tSize prog 35=some 1:=by kernel_rfl
theorem tAgg35:tAgg prog 35=some false:=by kernel_rfl
theorem tElem35:tElem prog 35=some 9:=by kernel_rfl
theorem tSize36:tSize prog 36=some 1:=by kernel_rfl
theorem tAgg36:tAgg prog 36=some false:=by kernel_rfl
theorem tElem36:tElem prog 36=some 127:=by kernel_rfl
theorem tSize37:tSize prog 37=some 1:=by kernel_rfl
theorem tAgg37:tAgg prog 37=some false:=by kernel_rfl
theorem tElem37:tElem prog 37=some 158:=by kernel_rfl
theorem tSize39:tSize prog 39=some 9:=by kernel_rfl
theorem tAgg39:tAgg prog 39=some true:=by kernel_rfl
theorem tZero39:tZero prog 39=some (Value.agg #[(Value.slice none 0 0),(Value.slice none 0 0),(Value.int IntKind.i64 0),(Value.int IntKind.i64 0),(Value.int IntKind.i64 0),(Value.int IntKind.i64 0),(Value.int IntKind.i64 0),(Value.int IntKind.i64 0),(Value.int IntKind.i64 0)]):=by kernel_rfl
theorem yn9:yns prog 39=some [(0,1),(1,1),(2,1),(3,1),(4,1),(5,1),(6,1),(7,1),(8,1)]:=by kernel_rfl
theorem ymj:yls prog 39 0=some (0,36):=by kernel_rfl
theorem ymk:yls prog 39 1=some (1,37):=by kernel_rfl
theorem yml:yls prog 39 2=some (2,3):=by kernel_rfl
theorem ymm:yls prog 39 3=some (3,3):=by kernel_rfl
theorem ymn:yls prog 39 4=some (4,3):=by kernel_rfl
theorem ymo:yls prog 39 5=some (5,3):=by kernel_rfl
theorem ymp:yls prog 39 6=some (6,3):=by kernel_rfl
theorem ymq:yls prog 39 7=some (7,3):=by kernel_rfl
theorem ymr:yls prog 39 8=some (8,3):=by kernel_rfl
theorem tSize41:tSize prog 41=some 16:=by kernel_rfl
theorem tAgg41:tAgg prog 41=some true:=by kernel_rfl
theorem tZero41:tZero prog 41=some (Value.agg #[(Value.string ⟨#[]⟩),(Value.int IntKind.i64 0),(Value.int IntKind.i64 0),(Value.bool false),(Value.string ⟨#[]⟩),(Value.slice none 0 0),(Value.slice none 0 0),(Value.slice none 0 0),(Value.slice none 0 0),(Value.int IntKind.i64 0),(Value.int IntKind.i64 0),(Value.int IntKind.i64 0),(Value.int IntKind.i64 0),(Value.int IntKind.i64 0),(Value.int IntKind.i64 0),(Value.int IntKind.i64 0)]):=by kernel_rfl
theorem yoa:yns prog 41=some [(0,1),(1,1),(2,1),(3,1),(4,1),(5,1),(6,1),(7,9)]:=by kernel_rfl
theorem yms:yls prog 41 0=some (0,9):=by kernel_rfl
theorem ymt:yls prog 41 1=some (1,3):=by kernel_rfl
theorem ymu:yls prog 41 2=some (2,3):=by kernel_rfl
theorem ymv:yls prog 41 3=some (3,4):=by kernel_rfl
theorem ymw:yls prog 41 4=some (4,9):=by kernel_rfl
theorem ymx:yls prog 41 5=some (5,35):=by kernel_rfl
theorem ymy:yls prog 41 6=some (6,35):=by kernel_rfl
theorem ymz:yls prog 41 7=some (7,39):=by kernel_rfl
theorem tSize43:tSize prog 43=some 2:=by kernel_rfl
theorem tAgg43:tAgg prog 43=some true:=by kernel_rfl
theorem tZero43:tZero prog 43=some (Value.agg #[(Value.string ⟨#[]⟩),(Value.int IntKind.i64 0)]):=by kernel_rfl
theorem yob:yns prog 43=some [(0,1),(1,1)]:=by kernel_rfl
theorem tFlat43:tFlat prog 43=some [1,0]:=by kernel_rfl
theorem ym0:yls prog 43 0=some (0,9):=by kernel_rfl
theorem ym1:yls prog 43 1=some (1,3):=by kernel_rfl
theorem tSize45:tSize prog 45=some 29:=by kernel_rfl
theorem tBytes45:ylk prog 45=some 376:=by kernel_rfl
theorem tAgg45:tAgg prog 45=some true:=by kernel_rfl
theorem tZero45:tZero prog 45=some (Value.agg #[(Value.int IntKind.i64 0),(Value.string ⟨#[]⟩),(Value.string ⟨#[]⟩),(Value.int IntKind.i64 0),(Value.bool false),(Value.string ⟨#[]⟩),(Value.int IntKind.i64 0),(Value.int IntKind.i64 0),(Value.slice none 0 0),(Value.slice none 0 0),(Value.string ⟨#[]⟩),(Value.int IntKind.i64 0),(Value.int IntKind.i64 0),(Value.bool false),(Value.string ⟨#[]⟩),(Value.slice none 0 0),(Value.slice none 0 0),(Value.slice none 0 0),(Value.slice none 0 0),(Value.int IntKind.i64 0),(Value.int IntKind.i64 0),(Value.int IntKind.i64 0),(Value.int IntKind.i64 0),(Value.int IntKind.i64 0),(Value.int IntKind.i64 0),(Value.int IntKind.i64 0),(Value.int IntKind.i64 0),(Value.string ⟨#[]⟩),(Value.int IntKind.i64 0)]):=by kernel_rfl
theorem yoc:yns prog 45=some [(0,1),(1,1),(2,1),(3,1),(4,1),(5,1),(6,1),(7,1),(8,1),(9,1),(10,16),(26,1),(27,2)]:=by kernel_rfl
theorem ym2:yls prog 45 0=some (0,3):=by kernel_rfl
theorem ym3:yls prog 45 1=some (1,9):=by kernel_rfl
theorem ym7:yls prog 45 2=some (2,9):=by kernel_rfl
theorem ym8:yls prog 45 3=some (3,34):=by kernel_rfl
theorem ym9:yls prog 45 4=some (4,4):=by kernel_rfl
theorem yna:yls prog 45 5=some (5,9):=by kernel_rfl
theorem ynb:yls prog 45 6=some (6,3):=by kernel_rfl
theorem ync:yls prog 45 7=some (7,3):=by kernel_rfl
theorem ynd:yls prog 45 8=some (8,26):=by kernel_rfl
theorem yne:yls prog 45 9=some (9,26):=by kernel_rfl
theorem ym4:yls prog 45 10=some (10,41):=by kernel_rfl
theorem ym5:yls prog 45 11=some (26,3):=by kernel_rfl
theorem ym6:yls prog 45 12=some (27,43):=by kernel_rfl
theorem tSize46:tSize prog 46=some 1:=by kernel_rfl
theorem tBytes46:ylk prog 46=some 8:=by kernel_rfl
theorem tAgg46:tAgg prog 46=some false:=by kernel_rfl
theorem tZero46:tZero prog 46=some (Value.int IntKind.i64 0):=by kernel_rfl
theorem tSize48:tSize prog 48=some 4:=by kernel_rfl
theorem tBytes48:ylk prog 48=some 32:=by kernel_rfl
theorem tAgg48:tAgg prog 48=some true:=by kernel_rfl
theorem tZero48:tZero prog 48=some (Value.agg #[(Value.int IntKind.i64 0),(Value.int IntKind.i64 0),(Value.int IntKind.i64 0),(Value.bool false)]):=by kernel_rfl
theorem yod:yns prog 48=some [(0,1),(1,1),(2,1),(3,1)]:=by kernel_rfl
theorem ynf:yls prog 48 1=some (1,3):=by kernel_rfl
theorem yng:yls prog 48 2=some (2,46):=by kernel_rfl
theorem tZero51:tZero prog 51=some (Value.int IntKind.i64 0):=by kernel_rfl
theorem tSize62:tSize prog 62=some 3:=by kernel_rfl
theorem tBytes62:ylk prog 62=some 32:=by kernel_rfl
theorem tAgg62:tAgg prog 62=some true:=by kernel_rfl
theorem tZero62:tZero prog 62=some (Value.agg #[(Value.int IntKind.i64 0),(Value.string ⟨#[]⟩),(Value.int IntKind.i64 0)]):=by kernel_rfl
theorem yoe:yns prog 62=some [(0,1),(1,1),(2,1)]:=by kernel_rfl
theorem ynh:yls prog 62 0=some (0,34):=by kernel_rfl
theorem yni:yls prog 62 1=some (1,9):=by kernel_rfl
theorem ynj:yls prog 62 2=some (2,3):=by kernel_rfl
theorem tSize63:tSize prog 63=some 1:=by kernel_rfl
theorem tAgg63:tAgg prog 63=some false:=by kernel_rfl
theorem tSize66:tSize prog 66=some 1:=by kernel_rfl
theorem tAgg66:tAgg prog 66=some false:=by kernel_rfl
theorem tMap66:tMap prog 66=some (3,28):=by kernel_rfl
theorem tSize67:tSize prog 67=some 1:=by kernel_rfl
theorem tAgg67:tAgg prog 67=some false:=by kernel_rfl
theorem tMap67:tMap prog 67=some (3,51):=by kernel_rfl
theorem tZero69:tZero prog 69=some (Value.agg #[(Value.map none),(Value.map none),(Value.map none)]):=by kernel_rfl
theorem yof:yns prog 69=some [(0,1),(1,1),(2,1)]:=by kernel_rfl
theorem ynk:yls prog 69 0=some (0,66):=by kernel_rfl
theorem ynl:yls prog 69 1=some (1,66):=by kernel_rfl
theorem ynm:yls prog 69 2=some (2,67):=by kernel_rfl
theorem tSize95:tSize prog 95=some 116:=by kernel_rfl
theorem tAgg95:tAgg prog 95=some true:=by kernel_rfl
theorem tZero95:tZero prog 95=some (Value.agg #[(Value.int IntKind.i64 0),(Value.string ⟨#[]⟩),(Value.string ⟨#[]⟩),(Value.int IntKind.i64 0),(Value.bool false),(Value.string ⟨#[]⟩),(Value.int IntKind.i64 0),(Value.int IntKind.i64 0),(Value.slice none 0 0),(Value.slice none 0 0),(Value.string ⟨#[]⟩),(Value.int IntKind.i64 0),(Value.int IntKind.i64 0),(Value.bool false),(Value.string ⟨#[]⟩),(Value.slice none 0 0),(Value.slice none 0 0),(Value.slice none 0 0),(Value.slice none 0 0),(Value.int IntKind.i64 0),(Value.int IntKind.i64 0),(Value.int IntKind.i64 0),(Value.int IntKind.i64 0),(Value.int IntKind.i64 0),(Value.int IntKind.i64 0),(Value.int IntKind.i64 0),(Value.int IntKind.i64 0),(Value.string ⟨#[]⟩),(Value.int IntKind.i64 0),(Value.int IntKind.i64 0),(Value.string ⟨#[]⟩),(Value.string ⟨#[]⟩),(Value.int IntKind.i64 0),(Value.bool false),(Value.string ⟨#[]⟩),(Value.int IntKind.i64 0),(Value.int IntKind.i64 0),(Value.slice none 0 0),(Value.slice none 0 0),(Value.string ⟨#[]⟩),(Value.int IntKind.i64 0),(Value.int IntKind.i64 0),(Value.bool false),(Value.string ⟨#[]⟩),(Value.slice none 0 0),(Value.slice none 0 0),(Value.slice none 0 0),(Value.slice none 0 0),(Value.int IntKind.i64 0),(Value.int IntKind.i64 0),(Value.int IntKind.i64 0),(Value.int IntKind.i64 0),(Value.int IntKind.i64 0),(Value.int IntKind.i64 0),(Value.int IntKind.i64 0),(Value.int IntKind.i64 0),(Value.string ⟨#[]⟩),(Value.int IntKind.i64 0),(Value.int IntKind.i64 0),(Value.string ⟨#[]⟩),(Value.string ⟨#[]⟩),(Value.int IntKind.i64 0),(Value.bool false),(Value.string ⟨#[]⟩),(Value.int IntKind.i64 0),(Value.int IntKind.i64 0),(Value.slice none 0 0),(Value.slice none 0 0),(Value.string ⟨#[]⟩),(Value.int IntKind.i64 0),(Value.int IntKind.i64 0),(Value.bool false),(Value.string ⟨#[]⟩),(Value.slice none 0 0),(Value.slice none 0 0),(Value.slice none 0 0),(Value.slice none 0 0),(Value.int IntKind.i64 0),(Value.int IntKind.i64 0),(Value.int IntKind.i64 0),(Value.int IntKind.i64 0),(Value.int IntKind.i64 0),(Value.int IntKind.i64 0),(Value.int IntKind.i64 0),(Value.int IntKind.i64 0),(Value.string ⟨#[]⟩),(Value.int IntKind.i64 0),(Value.int IntKind.i64 0),(Value.string ⟨#[]⟩),(Value.string ⟨#[]⟩),(Value.int IntKind.i64 0),(Value.bool false),(Value.string ⟨#[]⟩),(Value.int IntKind.i64 0),(Value.int IntKind.i64 0),(Value.slice none 0 0),(Value.slice none 0 0),(Value.string ⟨#[]⟩),(Value.int IntKind.i64 0),(Value.int IntKind.i64 0),(Value.bool false),(Value.string ⟨#[]⟩),(Value.slice none 0 0),(Value.slice none 0 0),(Value.slice none 0 0),(Value.slice none 0 0),(Value.int IntKind.i64 0),(Value.int IntKind.i64 0),(Value.int IntKind.i64 0),(Value.int IntKind.i64 0),(Value.int IntKind.i64 0),(Value.int IntKind.i64 0),(Value.int IntKind.i64 0),(Value.int IntKind.i64 0),(Value.string ⟨#[]⟩),(Value.int IntKind.i64 0)]):=by kernel_rfl
theorem yog:yns prog 95=none:=by kernel_rfl
theorem tArr95:tArr prog 95=some (4,29):=by kernel_rfl
theorem tArrE95:tArrE prog 95=some (4,45):=by kernel_rfl
theorem tSize111:tSize prog 111=some 1:=by kernel_rfl
theorem tAgg111:tAgg prog 111=some false:=by kernel_rfl
theorem tZero111:tZero prog 111=some (Value.map none):=by kernel_rfl
theorem tMap111:tMap prog 111=some (3,3):=by kernel_rfl
theorem tElem114:tElem prog 114=some 116:=by kernel_rfl
theorem tSize116:tSize prog 116=some 2:=by kernel_rfl
theorem yll:ylk prog 116=some 16:=by kernel_rfl
theorem tAgg116:tAgg prog 116=some true:=by kernel_rfl
theorem tZero116:tZero prog 116=some (Value.agg #[(Value.int IntKind.i64 0),(Value.int IntKind.i64 0)]):=by kernel_rfl
theorem ynt:yns prog 116=some [(0,1),(1,1)]:=by kernel_rfl
theorem ylt:yls prog 116 0=some (0,3):=by kernel_rfl
theorem ylu:yls prog 116 1=some (1,3):=by kernel_rfl
theorem tSize117:tSize prog 117=some 1:=by kernel_rfl
theorem tAgg117:tAgg prog 117=some false:=by kernel_rfl
theorem tElem117:tElem prog 117=some 28:=by kernel_rfl
theorem tSize124:tSize prog 124=some 1:=by kernel_rfl
theorem tAgg124:tAgg prog 124=some false:=by kernel_rfl
theorem tElem124:tElem prog 124=some 5:=by kernel_rfl
theorem tByt124:zoq prog 124=true:=by kernel_rfl
theorem tSize127:tSize prog 127=some 2:=by kernel_rfl
theorem ylm:ylk prog 127=some 24:=by kernel_rfl
theorem tAgg127:tAgg prog 127=some true:=by kernel_rfl
theorem tZero127:tZero prog 127=some (Value.agg #[(Value.string ⟨#[]⟩),(Value.int IntKind.i64 0)]):=by kernel_rfl
theorem ynu:yns prog 127=some [(0,1),(1,1)]:=by kernel_rfl
theorem tFlat127:tFlat prog 127=some [1,0]:=by kernel_rfl
theorem ylv:yls prog 127 0=some (0,9):=by kernel_rfl
theorem ylw:yls prog 127 1=some (1,3):=by kernel_rfl
theorem tMap135:tMap prog 135=some (3,4):=by kernel_rfl
theorem tElem137:tElem prog 137=some 46:=by kernel_rfl
theorem tElem147:tElem prog 147=some 22:=by kernel_rfl
theorem tSize152:tSize prog 152=some 3:=by kernel_rfl
theorem tAgg152:tAgg prog 152=some true:=by kernel_rfl
theorem tZero152:tZero prog 152=some (Value.agg #[(Value.slice none 0 0),(Value.slice none 0 0),(Value.slice none 0 0)]):=by kernel_rfl
theorem ylx:yls prog 152 0=some (0,28):=by kernel_rfl
theorem yly:yls prog 152 1=some (1,26):=by kernel_rfl
theorem ylz:yls prog 152 2=some (2,26):=by kernel_rfl
theorem tSize158:tSize prog 158=some 2:=by kernel_rfl
theorem yln:ylk prog 158=some 16:=by kernel_rfl
theorem tAgg158:tAgg prog 158=some true:=by kernel_rfl
theorem tZero158:tZero prog 158=some (Value.agg #[(Value.int IntKind.i64 0),(Value.int IntKind.i64 0)]):=by kernel_rfl
theorem tFlat158:tFlat prog 158=some [0,0]:=by kernel_rfl
theorem yl0:yls prog 158 0=some (0,34):=by kernel_rfl
theorem yl1:yls prog 158 1=some (1,3):=by kernel_rfl
theorem tZero181:tZero prog 181=some (Value.agg #[(Value.int IntKind.i64 0)]):=by kernel_rfl
theorem ynv:yns prog 181=some [(0,1)]:=by kernel_rfl
theorem tZero199:tZero prog 199=some (Value.agg #[]):=by kernel_rfl
theorem ynw:yns prog 199=some []:=by kernel_rfl
theorem tZero203:tZero prog 203=some (Value.agg #[(Value.slice none 0 0)]):=by kernel_rfl
theorem ynx:yns prog 203=some [(0,1)]:=by kernel_rfl
theorem yl2:yls prog 203 0=some (0,26):=by kernel_rfl
theorem tElem204:tElem prog 204=some 209:=by kernel_rfl
theorem tSize209:tSize prog 209=some 2:=by kernel_rfl
theorem ylo:ylk prog 209=some 24:=by kernel_rfl
theorem tAgg209:tAgg prog 209=some true:=by kernel_rfl
theorem tZero209:tZero prog 209=some (Value.agg #[(Value.int IntKind.i64 0),(Value.string ⟨#[]⟩)]):=by kernel_rfl
theorem yny:yns prog 209=some [(0,1),(1,1)]:=by kernel_rfl
theorem yl3:yls prog 209 0=some (0,34):=by kernel_rfl
theorem yl4:yls prog 209 1=some (1,9):=by kernel_rfl
theorem tInt212:tInt prog 212=some IntKind.u64:=by kernel_rfl
theorem tByt212:zoq prog 212=false:=by kernel_rfl
theorem tSize216:tSize prog 216=some 2:=by kernel_rfl
theorem tAgg216:tAgg prog 216=some true:=by kernel_rfl
theorem tZero216:tZero prog 216=some (Value.agg #[(Value.int IntKind.i64 0),Value.nilFunc]):=by kernel_rfl
theorem ynz:yns prog 216=some [(0,1),(1,1)]:=by kernel_rfl
theorem yl5:yls prog 216 0=some (0,3):=by kernel_rfl
theorem tElem217:tElem prog 217=some 216:=by kernel_rfl
theorem tInt226:tInt prog 226=some IntKind.u64:=by kernel_rfl
theorem tByt226:zoq prog 226=false:=by kernel_rfl
theorem tSize230:tSize prog 230=some 7:=by kernel_rfl
theorem tAgg230:tAgg prog 230=some true:=by kernel_rfl
theorem tZero230:tZero prog 230=some (Value.agg #[(Value.int IntKind.i64 0),(Value.int IntKind.i64 0),(Value.int IntKind.i64 0),(Value.int IntKind.i64 0),(Value.int IntKind.i64 0),(Value.int IntKind.i64 0),(Value.int IntKind.i64 0)]):=by kernel_rfl
theorem yn0:yns prog 230=none:=by kernel_rfl
theorem tArr230:tArr prog 230=some (7,1):=by kernel_rfl
theorem tArrE230:tArrE prog 230=some (7,3):=by kernel_rfl
theorem tZero233:tZero prog 233=some (Value.agg #[(Value.slice none 0 0)]):=by kernel_rfl
theorem yn1:yns prog 233=some [(0,1)]:=by kernel_rfl
theorem yl6:yls prog 233 0=some (0,124):=by kernel_rfl
theorem tSize242:tSize prog 242=some 5:=by kernel_rfl
theorem tAgg242:tAgg prog 242=some true:=by kernel_rfl
theorem tZero242:tZero prog 242=some (Value.agg #[(Value.int IntKind.i64 0),(Value.int IntKind.i64 0),(Value.int IntKind.i64 0),(Value.int IntKind.i64 0),(Value.int IntKind.i64 0)]):=by kernel_rfl
theorem yn2:yns prog 242=none:=by kernel_rfl
theorem tArr242:tArr prog 242=some (5,1):=by kernel_rfl
theorem tZero251:tZero prog 251=some (Value.agg #[(Value.slice none 0 0),(Value.slice none 0 0)]):=by kernel_rfl
theorem yn3:yns prog 251=none:=by kernel_rfl
theorem tArr251:tArr prog 251=some (2,1):=by kernel_rfl
theorem tArrE251:tArrE prog 251=some (2,37):=by kernel_rfl
theorem tZero252:tZero prog 252=some (Value.agg #[(Value.slice none 0 0),(Value.slice none 0 0)]):=by kernel_rfl
theorem yn4:yns prog 252=none:=by kernel_rfl
theorem tArr252:tArr prog 252=some (2,1):=by kernel_rfl
theorem tArrE252:tArrE prog 252=some (2,36):=by kernel_rfl
theorem tElem278:tElem prog 278=some 4:=by kernel_rfl
theorem tElem279:tElem prog 279=some 26:=by kernel_rfl
theorem tZero301:tZero prog 301=some (Value.agg #[]):=by kernel_rfl
theorem yn5:yns prog 301=some []:=by kernel_rfl
theorem tElem331:tElem prog 331=some 334:=by kernel_rfl
theorem tSize334:tSize prog 334=some 4:=by kernel_rfl
theorem ylp:ylk prog 334=some 48:=by kernel_rfl
theorem tAgg334:tAgg prog 334=some true:=by kernel_rfl
theorem tZero334:tZero prog 334=some (Value.agg #[(Value.int IntKind.i64 0),(Value.int IntKind.i64 0),(Value.int IntKind.i64 0),(Value.slice none 0 0)]):=by kernel_rfl
theorem yn7:yns prog 334=some [(0,1),(1,1),(2,1),(3,1)]:=by kernel_rfl
theorem yme:yls prog 334 0=some (0,3):=by kernel_rfl
theorem ymf:yls prog 334 1=some (1,3):=by kernel_rfl
theorem ymg:yls prog 334 2=some (2,3):=by kernel_rfl
theorem ymh:yls prog 334 3=some (3,26):=by kernel_rfl
theorem tElem338:tElem prog 338=some 341:=by kernel_rfl
theorem tSize341:tSize prog 341=some 3:=by kernel_rfl
theorem ylq:ylk prog 341=some 24:=by kernel_rfl
theorem tAgg341:tAgg prog 341=some true:=by kernel_rfl
theorem tZero341:tZero prog 341=some (Value.agg #[(Value.int IntKind.i64 0),(Value.int IntKind.i64 0),(Value.int IntKind.i64 0)]):=by kernel_rfl
theorem yn8:yns prog 341=some [(0,1),(1,1),(2,1)]:=by kernel_rfl
theorem tFlat341:tFlat prog 341=some [0,0,0]:=by kernel_rfl
theorem ymi:yls prog 341 0=some (0,3):=by kernel_rfl
attribute [go_sem] tSize3 tBytes3 tAgg3 tZero3 tInt3 tByt3 tSize4 tAgg4 tZero4 tSize5 tBytes5 tAgg5 tZero5 tInt5 tByt5 tSize9 tBytes9 tAgg9 tZero9 tStr9 tByt9 tSize22 tAgg22 tZero22 tElem22 tSize25 tAgg25 tElem25 tSize26 tAgg26 tZero26 tElem26 tElem27 tSize28 tBytes28 tAgg28 tZero28 tElem28 tSize32 tAgg32 tZero32 yn6 yl7 yl8 yl9 yma ymb ymc ymd tSize34 tAgg34 tSize35 tAgg35 tElem35 tSize36 tAgg36 tElem36 tSize37 tAgg37 tElem37 tSize39 tAgg39 tZero39 yn9 ymj ymk yml ymm ymn ymo ymp ymq ymr tSize41 tAgg41 tZero41 yoa yms ymt ymu ymv ymw ymx ymy ymz tSize43 tAgg43 tZero43 yob tFlat43 ym0 ym1 tSize45 tBytes45 tAgg45 tZero45 yoc ym2 ym3 ym7 ym8 ym9 yna ynb ync ynd yne ym4 ym5 ym6 tSize46 tBytes46 tAgg46 tZero46 tSize48 tBytes48 tAgg48 tZero48 yod ynf yng tZero51 tSize62 tBytes62 tAgg62 tZero62 yoe ynh yni ynj tSize63 tAgg63 tSize66 tAgg66 tMap66 tSize67 tAgg67 tMap67 tZero69 yof ynk ynl ynm tSize95 tAgg95 tZero95 yog tArr95 tArrE95 tSize111 tAgg111 tZero111 tMap111 tElem114 tSize116 yll tAgg116 tZero116 ynt ylt ylu tSize117 tAgg117 tElem117 tSize124 tAgg124 tElem124 tByt124 tSize127 ylm tAgg127 tZero127 ynu tFlat127 ylv ylw tMap135 tElem137 tElem147 tSize152 tAgg152 tZero152 ylx yly ylz tSize158 yln tAgg158 tZero158 tFlat158 yl0 yl1 tZero181 ynv tZero199 ynw tZero203 ynx yl2 tElem204 tSize209 ylo tAgg209 tZero209 yny yl3 yl4 tInt212 tByt212 tSize216 tAgg216 tZero216 ynz yl5 tElem217 tInt226 tByt226 tSize230 tAgg230 tZero230 yn0 tArr230 tArrE230 tZero233 yn1 yl6 tSize242 tAgg242 tZero242 yn2 tArr242 tZero251 yn3 tArr251 tArrE251 tZero252 yn4 tArr252 tArrE252 tElem278 tElem279 tZero301 yn5 tElem331 tSize334 ylp tAgg334 tZero334 yn7 yme ymf ymg ymh tElem338 tSize341 ylq tAgg341 tZero341 yn8 tFlat341 ymi
end Go.Proofs.YthjmjdleecmaeaaGreat
namespace Go.Abs
open Go Go.RowKit
theorem AWp.freezes {G:Ctx} {c:Code} {Q:Exit→St→Prop}:∀ (ids:List Nat) (st:St),AWp G c Q (st.freezes ids)→AWp G c Q st
 | [],_,h=>h
 | i::l,st,h=>AWp.freeze i (AWp.freezes l (st.freeze i) h)
theorem AWp.loop_vcF {G:Ctx} (own ids:List Nat) {c:Code} {Q:Exit→St→Prop} {st:St} (I:Nat→St→Prop) (n₀:Nat) (h₀:I n₀ (st.freezes ids))
 (round:∀ n s,I n s→ypy G own c (thenA (fun s'=>∃ n',n' < n∧I n' (s'.freezes ids)) Q) s):AWp G (.loop c) Q st :=
 AWp.loop (fun n s=>I n (s.freezes ids)) n₀ h₀ fun n s h=>AWp.freezes ids s (AWp.of_vc own (round n (s.freezes ids) h))
theorem pures0:∀ p∈([]:List AV),Pure p:=fun _ h=>by cases h
theorem zzi {a:AV} (h:Pure a):∀ p∈[a],Pure p:=fun p hp=>by simp only[List.mem_singleton]at hp;subst hp;exact h
theorem zzn {a:AV} {l:List AV} (h:Pure a) (hl:∀ p∈l,Pure p):∀ p∈a::l,Pure p:=fun p hp=>by
 rcases List.mem_cons.1 hp with rfl|hp
 · exact h
 · exact hl p hp
theorem zzj {a b:AV} (h:Pure a) (h':Pure b):∀ p∈[a,b],Pure p:=zzn h (zzi h')
theorem zzk {a b c:AV} (h:Pure a) (h':Pure b) (h'':Pure c):∀ p∈[a,b,c],Pure p:=zzn h (zzj h' h'')
theorem zzl {a b c d:AV} (h:Pure a) (h':Pure b) (h'':Pure c) (h3:Pure d):∀ p∈[a,b,c,d],Pure p:=zzn h (zzk h' h'' h3)
theorem zzm {a b c d e:AV} (h:Pure a) (h':Pure b) (h'':Pure c) (h3:Pure d) (h4:Pure e):∀ p∈[a,b,c,d,e],Pure p:=zzn h (zzl h' h'' h3 h4)
theorem zxe (l:List Int):PureR (ints l):=zyr l
theorem zxw (l:List Bytes):PureR (strs l):=zzf l
theorem zxd (e:Nat) (l:List Int):PureR (.fresh e 1 (l.map I)):=by
 intro x hx c hc
 obtain⟨n,_,rfl⟩:=List.mem_map.1 hx
 simp only[I,AV.cells,List.mem_singleton]at hc
 subst hc;exact zzh _
theorem wrap_i64 {n:Int} (h1:-9223372036854775808≤n) (h2:n≤9223372036854775807):IntKind.i64.wrap n=n:=IntWalk.i64_in n ⟨h1,h2⟩
theorem yro {k m:Nat} (h:k < m) (hm:m≤maxLen):IntKind.i64.wrap ((k:Int)+1)=(k:Int)+1:=wrap_i64 (by omega) (by unfold maxLen at hm;omega)
theorem yrn {k:Nat} (hm:k≤maxLen):IntKind.i64.wrap ((k:Int) - 1)=(k:Int) - 1:=wrap_i64 (by omega) (by unfold maxLen at hm;omega)
theorem zop (l:List Int):(l.map I).length=l.length:=by simp
def idxI {α:Type} (p:α→Bool) (l:List α):Int :=
 match l.findIdx? p with
 | some i=>i
 | none=>-1
theorem zn4 {α:Type} {p:α→Bool} {l:List α} {k:Nat} (hk:k < l.length) (hp:p l[k]=true) (hno:∀ j x,j < k→l[j]? = some x→p x=false):idxI p l=k:=by
 have:l.findIdx? p=some k:=by
  rw[List.findIdx?_eq_some_iff_getElem]
  refine⟨hk,hp,fun j hj=>?_⟩
  have:=hno j l[j] hj (List.getElem?_eq_getElem (by omega))
  simp[this]
 simp[idxI,this]
theorem zn5 {α:Type} {p:α→Bool} {l:List α} (hno:∀ (j:Nat) x,l[j]? = some x→p x=false):idxI p l=-1:=by
 have:l.findIdx? p=none:=by
  rw[List.findIdx?_eq_none_iff]
  intro x hx
  obtain⟨j,hj⟩:=List.mem_iff_getElem?.1 hx
  exact hno j x hj
 simp[idxI,this]
theorem zn6 {α:Type} (p:α→Bool) (l:List α):decide (0≤idxI p l)=l.any p:=by
 unfold idxI
 cases h:l.findIdx? p with
 | none =>
  rw[List.findIdx?_eq_none_iff]at h
  have:l.any p=false:=by simpa using h
  simp[this]
 | some i =>
  rw[List.findIdx?_eq_some_iff_getElem]at h
  obtain⟨h1,h2,_⟩:=h
  have:l.any p=true:=List.any_eq_true.2 ⟨l[i],List.getElem_mem _,h2⟩
  rw[this]
  simp
end Go.Abs
