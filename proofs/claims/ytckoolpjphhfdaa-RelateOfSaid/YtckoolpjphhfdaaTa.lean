/- The data of the program's types, and how they stand in memory. No condition. -/
import Derived.Test.YtckoolpjphhfdaaFq
namespace Go.Abs
open Go Go.RowKit

theorem bindP_some' {α : Type} (a : α) (K : α → Prop) : bindP (some a) K = K a := bindP_some a K
theorem onBool_v' (b : Bool) (K : Bool → Prop) : onBool (.v (.bool b)) K = K b := onBool_v b K
theorem onFn2_v' (g : FuncId) (first captured : List AV) (K : FuncId → List AV → List AV → Prop) (Y : Nat → Prop) : onFn2 (.fn (.func g) first captured) K Y = K g first captured := onFn2_v g first captured K Y
theorem onFn2_y' (l : Nat) (K : FuncId → List AV → List AV → Prop) (Y : Nat → Prop) : onFn2 (.v (.func (.yield l) #[] #[])) K Y = Y l := onFn2_y l K Y
theorem onFn_v' (g : FuncId) (first captured : List AV) (K : FuncId → List AV → List AV → Prop) : onFn (.fn (.func g) first captured) K = K g first captured := onFn_v g first captured K
attribute [go_sem ↓] bindP_some' onBool_v' onFn_v' onFn2_v' onFn2_y' w_move c_move w_assign c_assign w_pick c_pick w_load c_load w_unOp c_unOp w_convert c_convert w_makeFunc c_makeFunc w_fieldAddr c_fieldAddr w_field c_field w_indexAddr c_indexAddr w_index c_index w_extract c_extract w_lookup c_lookup a_next a_nil a_move a_assign a_pick a_binOp a_unOp a_convert a_extract a_makeFunc a_field a_index a_fieldAddr a_indexAddr a_load a_build a_box a_buildSlice a_len a_call a_callF a_append a_slice a_buildOwn a_alloc a_store w_makeMap w_mapUpdate w_clear w_slice c_slice w_clen w_cmin w_cmax c_clen w_call c_call c_binOp c_box c_build c_buildSlice w_alloc w_box w_build w_buildSlice w_binOp w_make w_store w_append w_mrange w_next w_entry w_ops_nil w_ops_none w_ops_some c_next c_ops_nil c_ops_none c_ops_some w_skip w_label w_ret w_exit w_region w_draws w_seq w_cond w_block w_loop w_then_normal w_then_ret w_then_exit w_in_normal w_in_ret w_in_exit w_range w_pr_normal w_pr_ret w_pr_exit w_pa_normal w_pi_normal w_pi_ret
attribute [go_sem] onOsl_some onOsl_none q_onMapF_v q_onMapF_ref onIterB_v onIter_v q_oslOf_v q_oslOf_ref q_oslOf_lst q_oslOf_osl q_fullOf_osl q_src_osl q_sl_ref q_sl_refF q_cells_osl q_fz_osl q_fz0_osl q_fz0_oslo q_onOslC_osl q_onOslC_ref q_len_osl q_ia_osl q_dj_osl q_onKeyQ_int q_onKeyQ_str q_onKeyQ_two q_onVal q_okT_txt q_okT_two q_lookAV_str q_lookAV_two q_qget_nil q_qM_nil q_take_osl q_nil_osl q_fzB_iter q_setIter_σ q_setIter_ver q_setIter_h List.getLast?_concat
attribute [go_sem] calmV bindP_some bindP_none onBool_v onFn_v onFn2_v onFn2_y onNil_some onNil_none onFull_some onFull_none q_fullOf_full q_fullOf_v q_fullOf_ref q_fullOf_lst q_fz_full q_take_full q_cells_full dstOK argAt
  okCells evParts valCells fillL spliceL compId List.mapM_cons List.mapM_nil Option.pure_def Option.bind_eq_bind List.nodup_nil
attribute [go_sem] q_allocSt q_dj_ref q_dj_rptr q_dj_v q_dj_lst q_dj_eptr q_zeroOK q_inY q_plainFn q_plain_v q_plain_lst q_plain_eptr q_plain_agg q_plain0_v q_plain0_lst q_lookup q_look_mapv q_look_ref q_lookAV q_setMap_σ q_setMap_ver q_setMap_h q_onMapB q_onMap q_onKey q_hint_none q_hint_some q_isIntAV q_one_map q_mget_nil q_intM_nil q_mput_get q_mput_int q_nil_mapv q_onRptr_m q_onRptr_r q_onRptr_v q_onRptr_l q_onRptr_f q_onRptr_e q_int_shr q_ia_eptr q_ia_rptr q_sl_eptr q_conv_lst q_bin_agg q_eqOp_eql q_eqOp_neq q_ek_nil q_ek_int q_ek_str q_ek_bool q_mem_σ q_mem_ver q_mem_h q_fill0 q_fill1 q_upd q_onRef_arr q_onRef_map q_ok_mapv q_fz_mapv q_fz0_mapv q_bo_mapv q_out_mapv q_take_mapv q_cells_mapv q_fzB_map q_fzB_obj q_o1_mapv q_ev_tmp q_ev_const q_ev_global q_ev_func q_put_σ q_put_ver q_put_h q_put_none q_setArr_σ q_setArr_ver q_setArr_h q_setBox_σ q_setBox_ver q_setBox_h q_setH_σ q_setH_ver q_setH_h q_start_σ q_start_ver q_start_h q_freeze_σ q_freeze_ver q_freeze_h q_freezes_nil q_freezes_cons q_ownNil_σ q_ownNil_ver q_ownNil_h q_guard_bool q_guard_undef q_guardSlot q_onArr q_onBlk_arr q_onBlk_box q_cells_v q_cells_agg q_cells_lst q_cells_ref q_cells_rptr q_cells_eptr q_cells_fn q_nil_v q_nil_lst q_nil_agg q_nil_ref q_ok_v q_ok_lst q_ok_eptr q_ok_fn q_ok_rptr q_ok_ref q_one_int q_one_bool q_one_string q_one_slice q_ld_eptr q_ld_rptr q_mk_true q_mk_false q_bin_int q_bin_str q_bin_bool q_int_add q_int_sub q_int_mul q_int_quo q_int_rem q_int_eql q_int_neq q_int_lss q_int_leq q_int_gtr q_int_geq q_str_add q_str_eql q_str_neq q_str_lss q_str_leq q_str_gtr q_str_geq q_bool_eql q_bool_neq q_not q_neg q_conv q_fa_eptr q_fa_rptr q_ia_lst q_ix_str q_len_lst q_len_ref q_len_slice q_len_str q_min q_max q_move q_assign q_pick q_load q_binOp q_unOp q_convert q_makeFunc q_fieldAddr q_field q_indexAddr q_index q_extract q_slice q_len q_cmin q_cmax q_ia_ref q_field_agg q_bound_none q_natOf q_bound q_src_lst q_src_nil q_src_ref q_dest_nil q_dest_ref q_ldAV q_sl_lst q_sl_full q_sl_str q_litAV q_buildAV q_store q_okAll_nil q_okAll_cons q_okAll_append q_okAll_take q_okAll_drop q_out_v q_out_agg q_out_tup q_out_lst q_out_eptr q_out_fn q_out_ref q_res_tmp q_res_cell q_result0 q_o1_v q_o1_agg q_o1_lst q_o1_fn q_o1_ref q_result1 q_result2 q_refs_nil q_refs_v q_refs_agg q_refs_lst q_refs_ref q_take_v q_take_agg q_take_lst q_take_eptr q_take_fn q_take_fresh q_take_tup q_tc_nil q_tc_fresh q_tc_v q_tc_agg q_tc_lst q_bo_v q_bo_agg q_bo_lst q_bo_eptr q_bo_ref q_fz_v q_fz_lst q_fz_eptr q_fz_tup q_fz_junk q_fz_ref q_fz_rptr q_fz_agg q_fz_fn q_fz0_v q_fz0_lst q_fz0_eptr q_fz0_same q_fz0_other q_fz0_rother q_fz0_box q_fzB_none q_fzB_arr q_fzB_box q_nf_v q_nf_agg q_nf_lst

attribute [go_sem] Option.some.injEq exists_eq_left' exists_eq_left if_true if_false true_and and_true List.mem_cons List.not_mem_nil or_false false_or List.map_cons List.map_nil List.nil_append List.cons_append List.append_nil
  List.length_cons List.length_nil List.all_cons List.all_nil Bool.and_true Bool.true_and Option.bind_some Option.map_some Option.bind_none Option.map_none List.drop_zero List.take_succ_cons List.take_zero List.drop_succ_cons
  Nat.add_zero Nat.zero_add reduceCtorEq Bool.false_eq_true false_and and_false ite_self

abbrev Bytes := List UInt8
def S (l : Bytes) : AV := .v (.string ⟨l.toArray⟩)
def I (n : Int) : AV := .v (.int .i64 n)
def B (b : Bool) : AV := .v (.bool b)
def ints (l : List Int) : AV := .lst 1 (l.map I)
def strs (l : List Bytes) : AV := .lst 1 (l.map S)

structure Level where
  user : Bytes
  n : Int
structure KindLevel where
  kind : Int
  n : Int
structure Levels where
  users : List Level
  kinds : List KindLevel
  user : Int
  message : Int
  state : Int
  invite : Int
  kick : Int
  ban : Int
  redact : Int
structure Content where
  text : Bytes
  n : Int
  target : Int
  thread : Bool
  via : Bytes
  allow : List Bytes
  deny : List Bytes
  levels : Levels
structure Sig where
  server : Bytes
  sum : Int
structure Evt where
  id : Int
  room : Bytes
  sender : Bytes
  kind : Int
  state : Bool
  key : Bytes
  time : Int
  depth : Int
  prev : List Int
  auth : List Int
  content : Content
  hash : Int
  sig : Sig

def lvc (x : Level) : List AV := [S x.user, I x.n]
def klc (x : KindLevel) : List AV := [I x.kind, I x.n]
def lvsc (x : Levels) : List AV := [.lst 2 (x.users.map fun u => .agg (lvc u)), .lst 2 (x.kinds.map fun u => .agg (klc u)), I x.user, I x.message, I x.state, I x.invite, I x.kick, I x.ban, I x.redact]
def ctc (x : Content) : List AV := [S x.text, I x.n, I x.target, B x.thread, S x.via, strs x.allow, strs x.deny, .lst 2 (x.levels.users.map fun u => .agg (lvc u)), .lst 2 (x.levels.kinds.map fun u => .agg (klc u)),
  I x.levels.user, I x.levels.message, I x.levels.state, I x.levels.invite, I x.levels.kick, I x.levels.ban, I x.levels.redact]
def evc (x : Evt) : List AV := [I x.id, S x.room, S x.sender, I x.kind, B x.state, S x.key, I x.time, I x.depth, ints x.prev, ints x.auth,
  S x.content.text, I x.content.n, I x.content.target, B x.content.thread, S x.content.via, strs x.content.allow, strs x.content.deny, .lst 2 (x.content.levels.users.map fun u => .agg (lvc u)), .lst 2 (x.content.levels.kinds.map fun u => .agg (klc u)),
  I x.content.levels.user, I x.content.levels.message, I x.content.levels.state, I x.content.levels.invite, I x.content.levels.kick, I x.content.levels.ban, I x.content.levels.redact, I x.hash, S x.sig.server, I x.sig.sum]
def ev (x : Evt) : AV := .agg (evc x)
def evs (l : List Evt) : AV := .lst 29 (l.map ev)

theorem flat_I (n : Int) : Flat (I n) := flat_v _
theorem flat_B (n : Bool) : Flat (B n) := flat_v _
theorem flat_S (n : Bytes) : Flat (S n) := flat_v _
theorem pure_I (n : Int) : Pure (I n) := pure_v _
theorem pure_B (n : Bool) : Pure (B n) := pure_v _
theorem pure_S (n : Bytes) : Pure (S n) := pure_v _
theorem pure_ints (l : List Int) : Pure (ints l) := pure_lst fun x hx c hc => by
  obtain ⟨n, _, rfl⟩ := List.mem_map.1 hx
  simp only [I, AV.cells, List.mem_singleton] at hc; subst hc; exact pure_v _
theorem pure_strs (l : List Bytes) : Pure (strs l) := pure_lst fun x hx c hc => by
  obtain ⟨n, _, rfl⟩ := List.mem_map.1 hx
  simp only [S, AV.cells, List.mem_singleton] at hc; subst hc; exact pure_v _
theorem pure_lvc (x : Level) : ∀ c ∈ lvc x, Pure c := by
  intro c hc; simp only [lvc, List.mem_cons, List.not_mem_nil, or_false] at hc; rcases hc with rfl | rfl <;> exact pure_v _
theorem pure_klc (x : KindLevel) : ∀ c ∈ klc x, Pure c := by
  intro c hc; simp only [klc, List.mem_cons, List.not_mem_nil, or_false] at hc; rcases hc with rfl | rfl <;> exact pure_v _
theorem pure_lst_agg {α : Type} {sz : Nat} {l : List α} {f : α → List AV} (h : ∀ x, ∀ c ∈ f x, Pure c) : Pure (.lst sz (l.map fun u => .agg (f u))) := pure_lst fun x hx c hc => by
  obtain ⟨n, _, rfl⟩ := List.mem_map.1 hx
  exact h n c hc
theorem pure_evc (x : Evt) : ∀ c ∈ evc x, Pure c := by
  intro c hc
  simp only [evc, List.mem_cons, List.not_mem_nil, or_false] at hc
  rcases hc with rfl | rfl | rfl | rfl | rfl | rfl | rfl | rfl | rfl | rfl | rfl | rfl | rfl | rfl | rfl | rfl | rfl | rfl | rfl | rfl | rfl | rfl | rfl | rfl | rfl | rfl | rfl | rfl | rfl <;>
    first | exact pure_v _ | exact pure_ints _ | exact pure_strs _ | exact pure_lst_agg pure_lvc | exact pure_lst_agg pure_klc
theorem pure_ev (x : Evt) : Pure (ev x) := pure_agg (pure_evc x)
theorem pure_evs (l : List Evt) : Pure (evs l) := pure_lst fun x hx c hc => by
  obtain ⟨n, _, rfl⟩ := List.mem_map.1 hx
  exact pure_evc n c hc

theorem okAll_ints (st : St) (l : List Int) : okAll st (l.map I) := fun c hc => by obtain ⟨n, _, rfl⟩ := List.mem_map.1 hc; rfl
theorem okAll_strs (st : St) (l : List Bytes) : okAll st (l.map S) := fun c hc => by obtain ⟨n, _, rfl⟩ := List.mem_map.1 hc; rfl
theorem okAll_evs (st : St) (l : List Evt) : okAll st (l.map ev) := fun c hc => by obtain ⟨n, _, rfl⟩ := List.mem_map.1 hc; rfl
attribute [go_sem] okAll_ints okAll_strs okAll_evs
attribute [go_sem] S I B ints strs ev evs
theorem pureR_v (x : Value) : PureR (.v x) := pure_v x
theorem pureR_B (b : Bool) : PureR (B b) := pure_B b
theorem pureR_I (b : Int) : PureR (I b) := pure_I b
theorem pureR_S (b : Bytes) : PureR (S b) := pure_S b
theorem evc_len (x : Evt) : (evc x).length = 29 := rfl
theorem evc_take (x : Evt) : (evc x).take 29 = evc x := rfl
theorem evc_ok (st : St) (x : Evt) : (evc x).all (okCell st) = true := rfl
theorem evc_0 (x : Evt) : ((evc x).drop 0).take 1 = [I x.id] := rfl
theorem evc_1 (x : Evt) : ((evc x).drop 1).take 1 = [S x.room] := rfl
theorem evc_2 (x : Evt) : ((evc x).drop 2).take 1 = [S x.sender] := rfl
theorem evc_3 (x : Evt) : ((evc x).drop 3).take 1 = [I x.kind] := rfl
theorem evc_4 (x : Evt) : ((evc x).drop 4).take 1 = [B x.state] := rfl
theorem evc_5 (x : Evt) : ((evc x).drop 5).take 1 = [S x.key] := rfl
theorem evc_6 (x : Evt) : ((evc x).drop 6).take 1 = [I x.time] := rfl
theorem evc_7 (x : Evt) : ((evc x).drop 7).take 1 = [I x.depth] := rfl
theorem evc_8 (x : Evt) : ((evc x).drop 8).take 1 = [ints x.prev] := rfl
theorem evc_9 (x : Evt) : ((evc x).drop 9).take 1 = [ints x.auth] := rfl
theorem evc_10 (x : Evt) : ((evc x).drop 10).take 1 = [S x.content.text] := rfl
theorem evc_11 (x : Evt) : ((evc x).drop 11).take 1 = [I x.content.n] := rfl
theorem evc_12 (x : Evt) : ((evc x).drop 12).take 1 = [I x.content.target] := rfl
theorem evc_13 (x : Evt) : ((evc x).drop 13).take 1 = [B x.content.thread] := rfl
theorem evc_14 (x : Evt) : ((evc x).drop 14).take 1 = [S x.content.via] := rfl
theorem evc_15 (x : Evt) : ((evc x).drop 15).take 1 = [strs x.content.allow] := rfl
theorem evc_16 (x : Evt) : ((evc x).drop 16).take 1 = [strs x.content.deny] := rfl
theorem evc_19 (x : Evt) : ((evc x).drop 19).take 1 = [I x.content.levels.user] := rfl
theorem evc_20 (x : Evt) : ((evc x).drop 20).take 1 = [I x.content.levels.message] := rfl
theorem evc_21 (x : Evt) : ((evc x).drop 21).take 1 = [I x.content.levels.state] := rfl
theorem evc_22 (x : Evt) : ((evc x).drop 22).take 1 = [I x.content.levels.invite] := rfl
theorem evc_23 (x : Evt) : ((evc x).drop 23).take 1 = [I x.content.levels.kick] := rfl
theorem evc_24 (x : Evt) : ((evc x).drop 24).take 1 = [I x.content.levels.ban] := rfl
theorem evc_25 (x : Evt) : ((evc x).drop 25).take 1 = [I x.content.levels.redact] := rfl
theorem evc_26 (x : Evt) : ((evc x).drop 26).take 1 = [I x.hash] := rfl
theorem evc_27 (x : Evt) : ((evc x).drop 27).take 1 = [S x.sig.server] := rfl
theorem evc_28 (x : Evt) : ((evc x).drop 28).take 1 = [I x.sig.sum] := rfl
theorem evc_0' (x : Evt) : (evc x).take 1 = [I x.id] := rfl
attribute [go_sem] evc_0' evc_len evc_take evc_ok evc_0 evc_1 evc_2 evc_3 evc_4 evc_5 evc_6 evc_7 evc_8 evc_9 evc_10 evc_11 evc_12 evc_13 evc_14 evc_15 evc_16 evc_19 evc_20 evc_21 evc_22 evc_23 evc_24 evc_25 evc_26 evc_27 evc_28
end Go.Abs
