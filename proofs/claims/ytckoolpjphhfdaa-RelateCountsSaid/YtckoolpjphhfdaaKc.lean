/- Several texts of the proof in one: Fq, Ta, Tt. No condition. -/
import Derived.Test.YtckoolpjphhfdaaKb
import Derived.Test.YtckoolpjphhfdaaChecked
import Derived.KernelRfl
set_option linter.unusedSimpArgs false
set_option linter.unusedVariables false
-- part Fq
namespace Go.Abs
open Go Go.RowKit

/-- Equal as it stands; a proof all the same, so that the walk's simp sees that something was done. -/
theorem nrfl {α : Sort _} (a : α) : a = a := Eq.trans rfl rfl

section
variable {P : Program} {st : St} {id : Nat}

theorem q_ev_tmp (t : Tmp) : st.ev (.tmp t) = st.σ t := nrfl _
theorem q_ev_const (x : Value) : st.ev (.const x) = .v x := nrfl _
theorem q_ev_global (g : Nat) : st.ev (.global g) = .v (.pointer (some ⟨g, 0, none⟩)) := nrfl _
theorem q_ev_func (f : FuncId) : st.ev (.func f) = .fn (.func f) [] [] := nrfl _

theorem q_put_σ (d : Tmp) (r : AV) (j : Nat) : (st.put (some d) r).σ j = if j = d then r else st.σ j := nrfl _
theorem q_put_ver (d : Option Tmp) (r : AV) : (st.put d r).ver = st.ver := by cases d <;> exact nrfl _
theorem q_put_h (d : Option Tmp) (r : AV) : (st.put d r).h = st.h := by cases d <;> exact nrfl _
theorem q_put_none (r : AV) : st.put none r = st := nrfl _
theorem q_setArr_σ (i e sz : Nat) (xs : List AV) : (st.setArr i e sz xs).σ = st.σ := nrfl _
theorem q_setArr_ver (i e sz : Nat) (xs : List AV) (j : Nat) : (st.setArr i e sz xs).ver j = if j = i then st.ver i + 1 else st.ver j := nrfl _
theorem q_setArr_h (i e sz : Nat) (xs : List AV) (j : Nat) : (st.setArr i e sz xs).h j = if j = i then .arr e sz xs else st.h j := nrfl _
theorem q_setBox_σ (i : Nat) (xs : List AV) : (st.setBox i xs).σ = st.σ := nrfl _
theorem q_setBox_ver (i : Nat) (xs : List AV) (j : Nat) : (st.setBox i xs).ver j = if j = i then st.ver i + 1 else st.ver j := nrfl _
theorem q_setBox_h (i : Nat) (xs : List AV) (j : Nat) : (st.setBox i xs).h j = if j = i then .box xs else st.h j := nrfl _
theorem q_setH_σ (i : Nat) (b : Blk) : (st.setH i b).σ = st.σ := nrfl _
theorem q_setH_ver (i : Nat) (b : Blk) : (st.setH i b).ver = st.ver := nrfl _
theorem q_setH_h (i : Nat) (b : Blk) (j : Nat) : (st.setH i b).h j = if j = i then b else st.h j := nrfl _
theorem q_start_σ (args : List AV) (j : Nat) : (startSt args).σ j = argAt args j := nrfl _
theorem q_start_ver (args : List AV) (j : Nat) : (startSt args).ver j = 0 := nrfl _
theorem q_start_h (args : List AV) (j : Nat) : (startSt args).h j = .none := nrfl _
theorem q_freeze_σ (i j : Nat) : (st.freeze i).σ j = fz st i (st.σ j) := nrfl _
theorem q_freeze_ver (i : Nat) : (st.freeze i).ver = st.ver := nrfl _
theorem q_freeze_h (i j : Nat) : (st.freeze i).h j = if j = i then .none else fzB st i (st.h j) := nrfl _
theorem q_freezes_nil : st.freezes [] = st := nrfl _
theorem q_freezes_cons (i : Nat) (l : List Nat) : st.freezes (i :: l) = (st.freeze i).freezes l := nrfl _
theorem q_ownNil_σ (i e sz d j : Nat) : (st.ownNil i e sz d).σ j = if j = d then .ref i (st.ver i + 1) else st.σ j := nrfl _
theorem q_ownNil_ver (i e sz d j : Nat) : (st.ownNil i e sz d).ver j = if j = i then st.ver i + 1 else st.ver j := nrfl _
theorem q_ownNil_h (i e sz d j : Nat) : (st.ownNil i e sz d).h j = if j = i then .arr e sz [] else st.h j := nrfl _
theorem q_guard_bool (b want : Bool) : guardV (.v (.bool b)) want = some (b == want) := nrfl _
theorem q_guard_undef (want : Bool) : guardV (.v undef) want = some false := nrfl _
theorem q_guardSlot (ops : Array Oper) (j : Nat) : guardSlot ops j = (ops[j]?).bind (·.dst) := nrfl _
/-- What is made of an own array. -/
def onArr {α : Type} (b : Blk) (no : α) (f : Nat → Nat → List AV → α) : α :=
  match b with
  | .arr e sz xs => f e sz xs
  | _ => no
theorem q_onArr {α : Type} (no : α) (f : Nat → Nat → List AV → α) (e sz : Nat) (xs : List AV) : onArr (.arr e sz xs) no f = f e sz xs := nrfl _
/-- What is made of an own block. -/
def onBlk {α : Type} (b : Blk) (no : α) (f : Nat → Nat → List AV → α) (g : List AV → α) : α :=
  match b with
  | .arr e sz xs => f e sz xs
  | .box cs => g cs
  | _ => no
/-- What is made of an own array or map. -/
def onRef {α : Type} (b : Blk) (no : α) (f : Nat → Nat → List AV → α) (g : Array MapEntry → Nat → α) : α :=
  match b with
  | .arr e sz xs => f e sz xs
  | .map es clk => g es clk
  | _ => no
theorem q_onRef_arr {α : Type} (no : α) (f : Nat → Nat → List AV → α) (g : Array MapEntry → Nat → α) (e sz : Nat) (xs : List AV) : onRef (.arr e sz xs) no f g = f e sz xs := nrfl _
theorem q_onRef_map {α : Type} (no : α) (f : Nat → Nat → List AV → α) (g : Array MapEntry → Nat → α) (es : Array MapEntry) (clk : Nat) : onRef (.map es clk) no f g = g es clk := nrfl _
theorem q_onBlk_arr {α : Type} (no : α) (f : Nat → Nat → List AV → α) (g : List AV → α) (e sz : Nat) (xs : List AV) : onBlk (.arr e sz xs) no f g = f e sz xs := nrfl _
theorem q_onBlk_box {α : Type} (no : α) (f : Nat → Nat → List AV → α) (g : List AV → α) (cs : List AV) : onBlk (.box cs) no f g = g cs := nrfl _
theorem q_cells_v (x : Value) : (AV.v x).cells = [.v x] := nrfl _
theorem q_cells_agg (cs : List AV) : (AV.agg cs).cells = cs := nrfl _
theorem q_cells_full (sz : Nat) (xs : List AV) : (AV.full sz xs).cells = [.full sz xs] := nrfl _
theorem q_cells_lst (sz : Nat) (xs : List AV) : (AV.lst sz xs).cells = [.lst sz xs] := nrfl _
theorem q_cells_ref (i k : Nat) : (AV.ref i k).cells = [.ref i k] := nrfl _
theorem q_cells_rptr (i k n j : Nat) : (AV.rptr i k n j).cells = [.rptr i k n j] := nrfl _
theorem q_cells_eptr (cs : List AV) (j : Nat) : (AV.eptr cs j).cells = [.eptr cs j] := nrfl _
theorem q_cells_fn (f : Fn) (a b : List AV) : (AV.fn f a b).cells = [.fn f a b] := nrfl _

theorem q_nil_v (x : Value) : nilSrc st (.v x) = none := nrfl _
theorem q_nil_lst (sz : Nat) (xs : List AV) : nilSrc st (.lst sz xs) = some xs := nrfl _
theorem q_nil_mapv (es : Array MapEntry) (clk : Nat) : nilSrc st (.mapv es clk) = none := nrfl _
theorem q_nil_agg (cs : List AV) : nilSrc st (.agg cs) = none := nrfl _
theorem q_nil_ref (i k : Nat) (hk : k = st.ver i) : nilSrc st (.ref i k) = onArr (st.h i) none fun _ _ xs => some xs := by
  simp only [nilSrc, hk, if_true]; cases st.h i <;> rfl

theorem q_ok_v (x : Value) : okCell st (.v x) = x.oneCell' := nrfl _
theorem q_ok_lst (sz : Nat) (xs : List AV) : okCell st (.lst sz xs) = true := nrfl _
theorem q_ok_eptr (cs : List AV) (j : Nat) : okCell st (.eptr cs j) = true := nrfl _
theorem q_ok_fn (f : Fn) (a b : List AV) : okCell st (.fn f a b) = true := nrfl _
theorem q_ok_rptr (i k n j : Nat) : okCell st (.rptr i k n j) = (k == st.ver i) := nrfl _
theorem q_ok_ref (i k : Nat) (hk : k = st.ver i) : okCell st (.ref i k) = onRef (st.h i) false (fun _ _ _ => true) (fun _ _ => true) := by
  simp only [okCell, hk, beq_self_eq_true, Bool.true_and]; cases st.h i <;> rfl
theorem q_ok_mapv (es : Array MapEntry) (clk : Nat) : okCell st (.mapv es clk) = true := nrfl _
theorem q_one_map (m : Option Nat) : (Value.map m).oneCell' = true := nrfl _
theorem q_one_int (k : IntKind) (n : Int) : (Value.int k n).oneCell' = true := nrfl _
theorem q_one_bool (b : Bool) : (Value.bool b).oneCell' = true := nrfl _
theorem q_one_string (s : ByteArray) : (Value.string s).oneCell' = true := nrfl _
theorem q_one_slice (a : Option Addr) (n c : Nat) : (Value.slice a n c).oneCell' = true := nrfl _

theorem q_ld_eptr (m : Nat) (cs : List AV) (j : Nat) : ldCells st m (.eptr cs j) = if j + m ≤ cs.length then some ((cs.drop j).take m) else none := nrfl _
theorem q_ld_rptr (m i k n j : Nat) (hk : k = st.ver i) : ldCells st m (.rptr i k n j) = onBlk (st.h i) none (fun _ _ xs => (xs[n]?).bind fun x => if j + m ≤ x.cells.length then some ((x.cells.drop j).take m) else none) (fun cs => if n = 0 ∧ j + m ≤ cs.length then some ((cs.drop j).take m) else none) := by
  simp only [ldCells, hk, if_true]
  cases st.h i with
  | arr e sz xs => simp only [onBlk]; cases xs[n]? <;> rfl
  | _ => rfl
theorem q_mk_true (cs : List AV) : mkAV true cs = some (.agg cs) := nrfl _
theorem q_mk_false (c : AV) : mkAV false [c] = some c := nrfl _

theorem q_bin_int (op : BinOp) (t : TypeId) (k : IntKind) (x y : Int) : binAV P op t (.v (.int k x)) (.v (.int k y)) = intBin op k x y := by simp [binAV]
theorem q_bin_str (op : BinOp) (t : TypeId) (x y : ByteArray) : binAV P op t (.v (.string x)) (.v (.string y)) = strBin op x y := nrfl _
theorem q_bin_bool (op : BinOp) (t : TypeId) (x y : Bool) : binAV P op t (.v (.bool x)) (.v (.bool y)) = boolBin P op t x y := nrfl _
theorem q_bin_agg (op : BinOp) (t : TypeId) (xs ys : List AV) : binAV P op t (.agg xs) (.agg ys) = (tFlat P t).bind fun ks => (eqKinds ks xs ys).bind (eqOp op) := nrfl _
theorem q_eqOp_eql (b : Bool) : eqOp .eql b = some (.v (.bool b)) := nrfl _
theorem q_eqOp_neq (b : Bool) : eqOp .neq b = some (.v (.bool !b)) := nrfl _
theorem q_ek_nil : eqKinds [] [] [] = some true := nrfl _
theorem q_ek_int (ks : List Nat) (k : IntKind) (x y : Int) (ps qs : List AV) : eqKinds (0 :: ks) (.v (.int k x) :: ps) (.v (.int k y) :: qs) = (eqKinds ks ps qs).map fun b => (x == y) && b := by simp [eqKinds]
theorem q_ek_str (ks : List Nat) (x y : ByteArray) (ps qs : List AV) : eqKinds (1 :: ks) (.v (.string x) :: ps) (.v (.string y) :: qs) = (eqKinds ks ps qs).map fun b => (x.toList == y.toList) && b := nrfl _
theorem q_ek_bool (ks : List Nat) (x y : Bool) (ps qs : List AV) : eqKinds (2 :: ks) (.v (.bool x) :: ps) (.v (.bool y) :: qs) = (eqKinds ks ps qs).map fun b => (x == y) && b := nrfl _
theorem q_int_add (k : IntKind) (x y : Int) : intBin .add k x y = some (.v (.int k (k.wrap (x + y)))) := nrfl _
theorem q_int_sub (k : IntKind) (x y : Int) : intBin .sub k x y = some (.v (.int k (k.wrap (x - y)))) := nrfl _
theorem q_int_mul (k : IntKind) (x y : Int) : intBin .mul k x y = some (.v (.int k (k.wrap (x * y)))) := nrfl _
theorem q_int_quo (k : IntKind) (x y : Int) : intBin .quo k x y = if y = 0 then none else some (.v (.int k (k.wrap (x.tdiv y)))) := nrfl _
theorem q_int_rem (k : IntKind) (x y : Int) : intBin .rem k x y = if y = 0 then none else some (.v (.int k (x.tmod y))) := nrfl _
theorem q_int_eql (k : IntKind) (x y : Int) : intBin .eql k x y = some (.v (.bool (x == y))) := nrfl _
theorem q_int_neq (k : IntKind) (x y : Int) : intBin .neq k x y = some (.v (.bool (x != y))) := nrfl _
theorem q_int_lss (k : IntKind) (x y : Int) : intBin .lss k x y = some (.v (.bool (x < y))) := nrfl _
theorem q_int_leq (k : IntKind) (x y : Int) : intBin .leq k x y = some (.v (.bool (x ≤ y))) := nrfl _
theorem q_int_gtr (k : IntKind) (x y : Int) : intBin .gtr k x y = some (.v (.bool (y < x))) := nrfl _
theorem q_int_geq (k : IntKind) (x y : Int) : intBin .geq k x y = some (.v (.bool (y ≤ x))) := nrfl _
theorem q_str_add (x y : ByteArray) : strBin .add x y = if ((x.size + y.size : Nat) : Int) > IntKind.i64.max then none else some (.v (.string (x ++ y))) := nrfl _
theorem q_str_eql (x y : ByteArray) : strBin .eql x y = some (.v (.bool (x.toList == y.toList))) := nrfl _
theorem q_str_neq (x y : ByteArray) : strBin .neq x y = some (.v (.bool (!(x.toList == y.toList)))) := nrfl _
theorem q_str_lss (x y : ByteArray) : strBin .lss x y = some (.v (.bool (Op.bytesLess x.toList y.toList))) := nrfl _
theorem q_str_leq (x y : ByteArray) : strBin .leq x y = some (.v (.bool (Op.bytesLess x.toList y.toList || x.toList == y.toList))) := nrfl _
theorem q_str_gtr (x y : ByteArray) : strBin .gtr x y = some (.v (.bool (!(Op.bytesLess x.toList y.toList || x.toList == y.toList)))) := nrfl _
theorem q_str_geq (x y : ByteArray) : strBin .geq x y = some (.v (.bool (!(Op.bytesLess x.toList y.toList)))) := nrfl _
theorem q_bool_eql (t : TypeId) (x y : Bool) (h : P.underlying t = some .bool) : boolBin P .eql t x y = some (.v (.bool (x == y))) := by simp [boolBin, h]
theorem q_bool_neq (t : TypeId) (x y : Bool) (h : P.underlying t = some .bool) : boolBin P .neq t x y = some (.v (.bool (!(x == y)))) := by simp [boolBin, h]
theorem q_not (b : Bool) : unAV .not (.v (.bool b)) = some (.v (.bool !b)) := nrfl _
theorem q_int_shr (k : IntKind) (x : Int) : intBin .shr k x 1 = some (.v (.int k (x.fdiv 2))) := nrfl _
theorem q_neg (k : IntKind) (n : Int) : unAV .neg (.v (.int k n)) = some (.v (.int k (k.wrap (0 - n)))) := nrfl _
theorem q_conv (s d : TypeId) (k : IntKind) (n : Int) : convAV P s d (.v (.int k n)) = (tInt P d).map fun k => .v (.int k (k.wrap n)) := nrfl _
theorem q_fa_eptr (t : TypeId) (f : Nat) (cs : List AV) (j : Nat) : fieldAddrAV P st t f (.eptr cs j) = (tField P t f).map fun x => .eptr cs (j + x.1) := nrfl _
theorem q_fa_rptr (t : TypeId) (f i k n j : Nat) (hk : k = st.ver i) : fieldAddrAV P st t f (.rptr i k n j) = (tField P t f).map fun x => .rptr i k n (j + x.1) := by simp [fieldAddrAV, hk]
theorem q_ia_lst (t : TypeId) (sz : Nat) (xs : List AV) (k : IntKind) (i : Int) : indexAddrAV P st t (.lst sz xs) (.v (.int k i)) = if ((tElem P t).bind (tSize P)) = some sz ∧ 0 ≤ i ∧ i < xs.length then (xs[i.toNat]?).map fun x => .eptr x.cells 0 else none := nrfl _
theorem q_ia_eptr (t : TypeId) (cs : List AV) (j : Nat) (k : IntKind) (i : Int) : indexAddrAV P st t (.eptr cs j) (.v (.int k i)) = (tArr P t).bind fun x => if 0 ≤ i ∧ i < x.1 then some (.eptr cs (j + i.toNat * x.2)) else none := nrfl _
theorem q_ia_rptr (t : TypeId) (id v n j : Nat) (k : IntKind) (i : Int) (hk : v = st.ver id) : indexAddrAV P st t (.rptr id v n j) (.v (.int k i)) = (tArr P t).bind fun x => if 0 ≤ i ∧ i < x.1 then some (.rptr id v n (j + i.toNat * x.2)) else none := by simp [indexAddrAV, hk]
theorem q_sl_eptr (t : TypeId) (lo hi : Option Operand) (cs : List AV) (j : Nat) : sliceAV P st t lo hi none (.eptr cs j) = (tArr P t).bind fun x => if x.2 = 1 ∧ j + x.1 ≤ cs.length ∧ x.1 ≤ maxLen ∧ cs.all isV = true then
    (boundAV st 0 lo).bind fun l => (boundAV st x.1 hi).bind fun h => if l ≤ h ∧ h ≤ x.1 then some (.lst 1 ((cs.drop (j + l)).take (h - l))) else none else none := by
  simp only [sliceAV]
  cases tArr P t with
  | none => rfl
  | some x =>
    simp only [Option.bind_some, Option.isNone_none, true_and]
    split
    · cases boundAV st 0 lo <;> cases boundAV st x.1 hi <;> rfl
    · rfl
theorem q_conv_lst (s d : TypeId) (xs : List AV) : convAV P s d (.lst 1 xs) = if ((tElem P s).bind (tInt P)) = some .u8 ∧ tStr P d = true then (xs.mapM byteAV).map fun ns => .v (.string (strOfNums ns)) else none := nrfl _
theorem q_ix_str (t : TypeId) (s : ByteArray) (k : IntKind) (i : Int) : indexAV P t (.v (.string s)) (.v (.int k i)) = if tStr P t = true ∧ 0 ≤ i then (s[i.toNat]?).map fun b => .v (.int .u8 b.toNat) else none := nrfl _
theorem q_len_lst (t : TypeId) (sz : Nat) (xs : List AV) : lenAV P st t (.lst sz xs) = (tElem P t).map fun _ => .v (.int .i64 xs.length) := nrfl _
theorem q_len_ref (t : TypeId) (i k : Nat) (hk : k = st.ver i) : lenAV P st t (.ref i k) = onRef (st.h i) none (fun _ _ xs => (tElem P t).map fun _ => .v (.int .i64 xs.length)) (fun es _ => (tMap P t).map fun _ => .v (.int .i64 es.size)) := by
  simp only [lenAV, hk, if_true]; cases st.h i <;> rfl
theorem q_lookup (t : TypeId) (m k : Operand) (ok : Bool) : evalV P st (.lookup t m k ok) = lookupAV P st t ok (st.ev m) (st.ev k) := nrfl _
theorem q_look_mapv (t : TypeId) (ok : Bool) (es : Array MapEntry) (clk : Nat) (q : AV) : lookupAV P st t ok (.mapv es clk) q = lookAV P t ok es q := nrfl _
theorem q_look_ref (t : TypeId) (ok : Bool) (i k : Nat) (q : AV) (hk : k = st.ver i) : lookupAV P st t ok (.ref i k) q = onRef (st.h i) none (fun _ _ _ => none) (fun es _ => lookAV P t ok es q) := by
  simp only [lookupAV, hk, if_true]; cases st.h i <;> rfl
theorem q_lookAV (t : TypeId) (ok : Bool) (es : Array MapEntry) (n : Int) : lookAV P t ok es (.v (.int .i64 n)) = (tMap P t).bind fun x => if tInt P x.1 = some .i64 ∧ intM es = true then
      (tZero P x.2).map fun z => if ok = true then .tup [.v ((mget es n).getD z), .v (.bool (mget es n).isSome)] else .v ((mget es n).getD z) else none := nrfl _
theorem q_setMap_σ (i : Nat) (es : Array MapEntry) (clk : Nat) : (st.setMap i es clk).σ = st.σ := nrfl _
theorem q_setMap_ver (i : Nat) (es : Array MapEntry) (clk : Nat) (j : Nat) : (st.setMap i es clk).ver j = if j = i then st.ver i + 1 else st.ver j := nrfl _
theorem q_setMap_h (i : Nat) (es : Array MapEntry) (clk : Nat) (j : Nat) : (st.setMap i es clk).h j = if j = i then .map es clk else st.h j := nrfl _
/-- What is asked of an own map. -/
def onMapB (b : Blk) (f : Array MapEntry → Nat → Prop) : Prop :=
  match b with
  | .map es clk => f es clk
  | _ => False
theorem q_onMapB (es : Array MapEntry) (clk : Nat) (f : Array MapEntry → Nat → Prop) : onMapB (.map es clk) f = f es clk := nrfl _
@[congr] theorem onMapB_congr {b b' : Blk} {f : Array MapEntry → Nat → Prop} (h : b = b') : onMapB b f = onMapB b' f := by rw [h]
theorem q_onMap (i k : Nat) (f : Nat → Array MapEntry → Nat → Prop) (hk : k = st.ver i) : onMap st (.ref i k) f = onMapB (st.h i) (f i) := by
  subst hk; simp only [onMap, true_and]; rfl
theorem q_onKey (n : Int) (x : Value) (f : Int → Value → Prop) : onKey (.v (.int .i64 n)) (.v x) f = f n x := nrfl _
theorem q_hint_none : hintOK st none = True := nrfl _
def isIntAV (p : AV) : Prop := ∃ k n, p = .v (.int k n)
theorem q_isIntAV (k : IntKind) (n : Int) : isIntAV (.v (.int k n)) = True := eq_true ⟨k, n, rfl⟩
theorem q_hint_some (x : Operand) : hintOK st (some x) = isIntAV (st.ev x) := nrfl _
theorem q_fzB_mapB (es : Array MapEntry) (clk : Nat) : fzB st id (.map es clk) = .map es clk := nrfl _
theorem q_onKeyQ_int (k : IntKind) (n : Int) (f : KeyQ → Prop) (no : Prop) : onKeyQ (.v (.int k n)) f no = no := nrfl _
theorem q_onKeyQ_str (s : ByteArray) (f : KeyQ → Prop) (no : Prop) : onKeyQ (.v (.string s)) f no = f (.txt s) := nrfl _
theorem q_onKeyQ_two (a b : ByteArray) (f : KeyQ → Prop) (no : Prop) : onKeyQ (.agg [.v (.string a), .v (.string b)]) f no = f (.two a b) := nrfl _
theorem q_onVal (x : Value) (f : Value → Prop) : onVal (.v x) f = f x := nrfl _
theorem q_okT_txt {P : Program} (t : TypeId) (s : ByteArray) : (KeyQ.txt s).okT P t = tStr P t := nrfl _
theorem q_okT_two {P : Program} (t : TypeId) (a b : ByteArray) : (KeyQ.two a b).okT P t = (tFlat P t == some [1, 1]) := nrfl _
theorem q_lookAV_str {P : Program} (t : TypeId) (ok : Bool) (es : Array MapEntry) (s : ByteArray) : lookAV P t ok es (.v (.string s)) = (tMap P t).bind fun x => if tStr P x.1 = true ∧ qM es (.txt s) = true then
      (tZero P x.2).map fun z => if ok = true then .tup [.v ((qget es (.txt s)).getD z), .v (.bool (qget es (.txt s)).isSome)] else .v ((qget es (.txt s)).getD z) else none := nrfl _
theorem q_lookAV_two {P : Program} (t : TypeId) (ok : Bool) (es : Array MapEntry) (a b : ByteArray) : lookAV P t ok es (.agg [.v (.string a), .v (.string b)]) = (tMap P t).bind fun x => if (tFlat P x.1 == some [1, 1]) = true ∧ qM es (.two a b) = true then
      (tZero P x.2).map fun z => if ok = true then .tup [.v ((qget es (.two a b)).getD z), .v (.bool (qget es (.two a b)).isSome)] else .v ((qget es (.two a b)).getD z) else none := nrfl _
theorem q_qget_nil (k : KeyQ) : qget #[] k = none := nrfl _
theorem q_qM_nil (k : KeyQ) : qM #[] k = true := nrfl _
theorem q_mget_nil (n : Int) : mget #[] n = none := nrfl _
theorem q_intM_nil : intM #[] = true := nrfl _
theorem findI_go (n : Int) : ∀ (l : List MapEntry) (i : Nat), (findI n l i).map (·.2) = (l.find? (keyIs n)).map (·.val)
  | [], i => rfl
  | e :: l, i => by
    unfold findI
    cases hk : keyIs n e with
    | true => simp [hk, List.find?_cons]
    | false => simp only [Bool.false_eq_true, if_false, List.find?_cons, hk]; exact findI_go n l (i + 1)
theorem mget_eq (es : Array MapEntry) (n : Int) : mget es n = (es.toList.find? (keyIs n)).map (·.val) := findI_go n _ _
theorem find_app (n : Int) (l : List MapEntry) (e : MapEntry) : (l ++ [e]).find? (keyIs n) = (l.find? (keyIs n)).or (if keyIs n e = true then some e else none) := by
  rw [List.find?_append]; congr 1
  cases h : keyIs n e <;> simp [h, List.find?_cons]
theorem keyIs_mk (n m : Int) (v : Value) (b : Nat) : keyIs n { key := .int .i64 m, val := v, born := b } = (n == m) := nrfl _
theorem keyIs_val (n : Int) (e : MapEntry) (v : Value) : keyIs n { e with val := v } = keyIs n e := nrfl _
theorem keyIs_key2 (n m : Int) (e : MapEntry) (v : Value) (h : e.key = .int .i64 m) : keyIs n e = (n == m) := by unfold keyIs; rw [h]
theorem find_set (n m : Int) (v : Value) : ∀ (l : List MapEntry) (j : Nat) (e : MapEntry), l[j]? = some e → keyIs m e = true → (∀ k e', k < j → l[k]? = some e' → keyIs m e' = false) →
    ((l.set j { key := .int .i64 m, val := v, born := e.born }).find? (keyIs n)).map (·.val) = if m = n then some v else (l.find? (keyIs n)).map (·.val)
  | [], j, e, h, _, _ => by simp at h
  | x :: l, 0, e, h, hk, _ => by
    simp at h; subst h
    have hke : keyIs n x = (n == m) := by unfold keyIs; rw [keyIs_key hk]
    simp only [List.set_cons_zero, List.find?_cons, keyIs_mk, hke]
    by_cases g : m = n
    · subst g; simp
    · have : (n == m) = false := by simpa using Ne.symm g
      rw [this, if_neg g]
  | x :: l, j + 1, e, h, hk, hno => by
    have hx : keyIs m x = false := hno 0 x (by omega) rfl
    have ih := find_set n m v l j e (by simpa using h) hk (fun k e' hk' he' => hno (k + 1) e' (by omega) (by simpa using he'))
    simp only [List.set_cons_succ, List.find?_cons]
    cases hn : keyIs n x with
    | true =>
      by_cases g : m = n
      · subst g; rw [hx] at hn; cases hn
      · rw [if_neg g]
    | false => exact ih
theorem q_mput_get (es : Array MapEntry) (clk : Nat) (m : Int) (v : Value) (n : Int) : mget (mput es clk m v).1 n = if m = n then some v else mget es n := by
  rw [mget_eq, mget_eq]
  unfold mput
  cases hf : findI m es.toList 0 with
  | some x =>
    obtain ⟨j, e, rfl, h1, h2, h3⟩ := findI_some m _ _ _ hf
    have hj : j < es.size := by simpa using (List.getElem?_eq_some_iff.1 h1).1
    have he : es[j] = e := by
      have := (List.getElem?_eq_some_iff.1 h1).2
      simpa using this
    have : (es.modify (0 + j) fun e => { e with key := .int .i64 m, val := v }).toList = es.toList.set j { key := .int .i64 m, val := v, born := e.born } := by
      rw [Nat.zero_add, Array.toList_modify]
      apply List.ext_getElem?
      intro k
      rw [List.getElem?_modify, List.getElem?_set]
      by_cases g : j = k
      · subst g; simp [hj, he]
      · simp [g]
    simp only [this]
    exact find_set n m v _ j e h1 h2 h3
  | none =>
    have hno := (findI_none m _ 0).1 hf
    simp only [Array.toList_push, find_app, keyIs_mk]
    by_cases g : m = n
    · subst g
      have : es.toList.find? (keyIs m) = none := List.find?_eq_none.2 fun e he => by rw [hno e he]; simp
      simp [this]
    · have : (n == m) = false := by simpa using Ne.symm g
      rw [if_neg g]
      simp [this]
theorem q_mput_int (es : Array MapEntry) (clk : Nat) (m : Int) (v : Value) (h : intM es = true) : intM (mput es clk m v).1 = true := by
  unfold mput
  unfold intM at h ⊢
  rw [List.all_eq_true] at h
  cases hf : findI m es.toList 0 with
  | some x =>
    obtain ⟨j, e, rfl, h1, h2, h3⟩ := findI_some m _ _ _ hf
    rw [List.all_eq_true]
    intro y hy
    obtain ⟨k, hk⟩ := List.mem_iff_getElem?.1 hy
    rw [Array.toList_modify, List.getElem?_modify] at hk
    cases hg : es.toList[k]? with
    | none => simp [hg] at hk
    | some e' =>
      rw [hg] at hk
      split at hk <;> cases hk
      · rfl
      · exact h _ (List.mem_of_getElem? hg)
  | none =>
    rw [List.all_eq_true]
    simp only [Array.toList_push, List.mem_append, List.mem_singleton]
    rintro y (hy | rfl)
    · exact h y hy
    · rfl
theorem q_len_slice (t : TypeId) (a : Option Addr) (n c : Nat) : lenAV P st t (.v (.slice a n c)) = (tElem P t).map fun _ => .v (.int .i64 n) := nrfl _
theorem q_len_str (t : TypeId) (s : ByteArray) : lenAV P st t (.v (.string s)) = if tStr P t = true then some (.v (.int .i64 s.size)) else none := nrfl _
theorem q_min (k k' : IntKind) (x y : Int) : minAV (.v (.int k x)) (.v (.int k' y)) = some (.v (.int k (if y < x then y else x))) := nrfl _
theorem q_max (k k' : IntKind) (x y : Int) : maxAV (.v (.int k x)) (.v (.int k' y)) = some (.v (.int k (if x < y then y else x))) := nrfl _

theorem q_move (x : Operand) : evalV P st (.move x) = some (st.ev x) := nrfl _
theorem q_assign (x : Operand) : evalV P st (.assign x) = some (st.ev x) := nrfl _
theorem q_pick (c x y : Operand) (b : Bool) (h : st.ev c = .v (.bool b)) : evalV P st (.pick c x y) = some (if b = true then st.ev x else st.ev y) := by simp [evalV, h]
theorem q_load (t : TypeId) (x : Operand) : evalV P st (.load t x) = ldAV P st t (st.ev x) := nrfl _
theorem q_binOp (op : BinOp) (t : TypeId) (x y : Operand) (k : TypeId) : evalV P st (.binOp op t x y k) = binAV P op t (st.ev x) (st.ev y) := nrfl _
theorem q_unOp (op : UnOp) (t : TypeId) (x : Operand) : evalV P st (.unOp op t x) = unAV op (st.ev x) := nrfl _
theorem q_convert (s d : TypeId) (x : Operand) : evalV P st (.convert s d x) = if (P.underlying s).isSome then convAV P s d (st.ev x) else none := nrfl _
theorem q_makeFunc (f : Fn) (a b : Array Operand) : evalV P st (.makeFunc f a b) = some (.fn f (a.toList.map st.ev) (b.toList.map st.ev)) := nrfl _
theorem q_fieldAddr (t : TypeId) (x : Operand) (f : Nat) : evalV P st (.fieldAddr t x f) = fieldAddrAV P st t f (st.ev x) := nrfl _
theorem q_field (t : TypeId) (x : Operand) (f : Nat) : evalV P st (.field t x f) = fieldAV P t f (st.ev x) := nrfl _
theorem q_indexAddr (t : TypeId) (x i : Operand) : evalV P st (.indexAddr t x i) = indexAddrAV P st t (st.ev x) (st.ev i) := nrfl _
theorem q_index (t : TypeId) (x i : Operand) : evalV P st (.index t x i) = indexAV P t (st.ev x) (st.ev i) := nrfl _
theorem q_extract (x : Operand) (i : Nat) (cs : List AV) (h : st.ev x = .tup cs) : evalV P st (.extract x i) = cs[i]? := by simp [evalV, h]
theorem q_slice (t : TypeId) (x : Operand) (lo hi mx : Option Operand) : evalV P st (.slice t x lo hi mx) = sliceAV P st t lo hi mx (st.ev x) := nrfl _
theorem q_len (x : Operand) (t : TypeId) : evalV P st (.call { callee := .builtin .len, args := #[x], argTypes := #[t] }) = lenAV P st t (st.ev x) := nrfl _
theorem q_cmin (x y : Operand) (ts : Array TypeId) : evalV P st (.call { callee := .builtin .min, args := #[x, y], argTypes := ts }) = minAV (st.ev x) (st.ev y) := nrfl _
theorem q_cmax (x y : Operand) (ts : Array TypeId) : evalV P st (.call { callee := .builtin .max, args := #[x, y], argTypes := ts }) = maxAV (st.ev x) (st.ev y) := nrfl _
theorem q_ia_ref (t : TypeId) (j k : Nat) (kk : IntKind) (i : Int) (hk : k = st.ver j) : indexAddrAV P st t (.ref j k) (.v (.int kk i)) = onArr (st.h j) none fun _ sz xs => if ((tElem P t).bind (tSize P)) = some sz ∧ 0 ≤ i ∧ i < xs.length then some (.rptr j k i.toNat 0) else none := by
  simp only [indexAddrAV, hk, if_true]; cases st.h j <;> rfl
theorem q_field_agg (t : TypeId) (f : Nat) (cs : List AV) : fieldAV P t f (.agg cs) = match tField P t f with
    | some (off, u) => match tAgg P u, tSize P u with
      | some b, some m => if off + m ≤ cs.length then mkAV b ((cs.drop off).take m) else none
      | _, _ => none
    | none => none := nrfl _
theorem q_bound_none (d : Nat) : boundAV st d none = some d := nrfl _
theorem q_natOf (k : IntKind) (i : Int) : natOf (.v (.int k i)) = if 0 ≤ i then some i.toNat else none := nrfl _
theorem q_bound (d : Nat) (x : Operand) : boundAV st d (some x) = natOf (st.ev x) := by
  show (match st.ev x with
    | .v (.int _ i) => if 0 ≤ i then some i.toNat else none
    | _ => none) = natOf (st.ev x)
  generalize st.ev x = p
  cases p with
  | v y => cases y <;> rfl
  | _ => rfl
theorem q_src_lst (sz : Nat) (xs : List AV) : srcAV st sz (.lst sz xs) = some xs := by simp [srcAV]
theorem q_src_nil (sz : Nat) : srcAV st sz (.v (.slice none 0 0)) = some [] := nrfl _
theorem q_src_ref (sz i k : Nat) (hk : k = st.ver i) : srcAV st sz (.ref i k) = onArr (st.h i) none fun _ sz' xs => if sz' = sz then some xs else none := by
  simp only [srcAV, hk, if_true]; cases st.h i <;> rfl
theorem q_dest_nil (d e sz : Nat) : destAV st d e sz (.v (.slice none 0 0)) = some (d, []) := nrfl _
theorem q_dest_ref (d e sz i k : Nat) (hk : k = st.ver i) : destAV st d e sz (.ref i k) = onArr (st.h i) none fun e' sz' xs => if e' = e ∧ sz' = sz then some (i, xs) else none := by
  simp only [destAV, hk, if_true]; cases st.h i <;> rfl

theorem q_ldAV (t : TypeId) (x : AV) : ldAV P st t x = (tAgg P t).bind fun b => (tSize P t).bind fun m => (ldCells st m x).bind (mkAV b) := by
  unfold ldAV
  cases tAgg P t <;> cases tSize P t <;> rfl
theorem q_sl_lst (t : TypeId) (lo hi : Option Operand) (sz : Nat) (xs : List AV) : sliceAV P st t lo hi none (.lst sz xs) = if ((tElem P t).bind (tSize P)) = some sz then
    (boundAV st 0 lo).bind fun l => (boundAV st xs.length hi).bind fun h => if l ≤ h ∧ h ≤ xs.length then some (.lst sz ((xs.drop l).take (h - l))) else none else none := by
  simp only [sliceAV]
  split
  · cases boundAV st 0 lo <;> cases boundAV st xs.length hi <;> rfl
  · rfl
theorem q_sl_full (t : TypeId) (lo : Option Operand) (h' m' : Operand) (sz : Nat) (xs : List AV) : sliceAV P st t lo (some h') (some m') (.lst sz xs) = if ((tElem P t).bind (tSize P)) = some sz then
    (boundAV st 0 lo).bind fun l => (boundAV st xs.length (some h')).bind fun h => if l ≤ h ∧ h ≤ xs.length then (boundAV st 0 (some m')).bind fun m => if h ≤ m ∧ m ≤ xs.length then some (if m = h then .full sz ((xs.drop l).take (h - l)) else .lst sz ((xs.drop l).take (h - l))) else none else none else none := by
  simp only [sliceAV]
  split
  · cases boundAV st 0 lo <;> cases boundAV st xs.length (some h') <;> first | rfl | skip
    simp only [Option.bind_some]
    split
    · cases boundAV st 0 (some m') <;> rfl
    · rfl
  · rfl
theorem q_sl_str (t : TypeId) (lo hi : Option Operand) (s : ByteArray) : sliceAV P st t lo hi none (.v (.string s)) = if tStr P t = true then
    (boundAV st 0 lo).bind fun l => (boundAV st s.size hi).bind fun h => if l ≤ h ∧ h ≤ s.size then some (.v (.string (s.extract l h))) else none else none := by
  simp only [sliceAV, Option.isNone_none, and_true]
  split
  · cases boundAV st 0 lo <;> cases boundAV st s.size hi <;> rfl
  · rfl
theorem q_litAV (t : TypeId) (n : Nat) (ps : Array (Nat × Operand)) : litAV P st t n ps = (tElem P t).bind fun e => (tSize P e).bind fun sz =>
    if (ps.toList.map (·.1)) = List.range n ∧ ((evParts st ps).all fun x => okCells st x.2 && x.2.cells.length == sz) = true ∧ (n * sz ≤ 16777216 ∧ n ≤ 16777216) ∧ (tZero P e).map (·.cells.size) = some sz then some (e, sz, (evParts st ps).map (·.2)) else none := by
  unfold litAV
  cases tElem P t with
  | none => rfl
  | some e => cases h : tSize P e <;> simp only [Option.bind_some, h] <;> rfl
theorem q_buildAV (t : TypeId) (ps : Array (Nat × Operand)) (pl : List (Nat × Nat)) (h : tPlaces P t = some pl) : buildAV P st t ps = if (evParts st ps).all (fun x => okCells st x.2) = true then
    (tZero P t).bind fun z => (fillL (fun i => pl[i]?) (valCells z) (evParts st ps)).map .agg else none := by
  simp only [buildAV, h]
  split
  · cases tZero P t <;> rfl
  · rfl
theorem q_store (t : TypeId) (i k n j : Nat) (q : AV) (hk : k = st.ver i) : storeSt P st t (.rptr i k n j) q = if tSize P t = some q.cells.length ∧ okCells st q = true then onBlk (st.h i) none (fun e sz xs => (xs[n]?).bind fun x => if j = 0 ∧ q.cells.length = sz then some (st.setH i (.arr e sz (xs.set n q))) else match x with
    | .agg cs => if j + q.cells.length ≤ cs.length then some (st.setH i (.arr e sz (xs.set n (.agg (spliceL cs j q.cells))))) else none
    | _ => none) (fun cs => if n = 0 ∧ j + q.cells.length ≤ cs.length then some (st.setH i (.box (spliceL cs j q.cells))) else none) else none := by
  simp only [storeSt, hk, true_and, St.setH]
  split
  · cases st.h i with
    | arr e sz xs => simp only [onBlk]; cases xs[n]? <;> rfl
    | _ => rfl
  · rfl

/-- May these all be appended? -/
def okAll (st : St) (ys : List AV) : Prop := ∀ c ∈ ys, okCells st c = true
theorem q_okAll_nil : okAll st [] = True := eq_true fun _ h => by cases h
theorem q_okAll_cons (y : AV) (ys : List AV) : okAll st (y :: ys) = (okCells st y = true ∧ okAll st ys) := by
  simp only [okAll, List.mem_cons, forall_eq_or_imp]
theorem q_okAll_append (ys zs : List AV) : okAll st (ys ++ zs) = (okAll st ys ∧ okAll st zs) := by
  simp only [okAll, List.mem_append, or_imp, forall_and]
theorem q_okAll_take (n : Nat) (ys : List AV) (h : okAll st ys) : okAll st (ys.take n) := fun c hc => h c (List.mem_of_mem_take hc)
theorem q_okAll_drop (n : Nat) (ys : List AV) (h : okAll st ys) : okAll st (ys.drop n) := fun c hc => h c (List.mem_of_mem_drop hc)

theorem q_out_v (x : Value) : outAV st (.v x) = some (.v x) := nrfl _
theorem q_out_agg (cs : List AV) : outAV st (.agg cs) = some (.agg cs) := nrfl _
theorem q_out_tup (cs : List AV) : outAV st (.tup cs) = some (.tup cs) := nrfl _
theorem q_out_lst (sz : Nat) (xs : List AV) : outAV st (.lst sz xs) = some (.lst sz xs) := nrfl _
theorem q_out_eptr (cs : List AV) (j : Nat) : outAV st (.eptr cs j) = some (.eptr cs j) := nrfl _
theorem q_out_fn (f : Fn) (a b : List AV) : outAV st (.fn f a b) = some (.fn f a b) := nrfl _
theorem q_out_ref (i k : Nat) (hk : k = st.ver i) : outAV st (.ref i k) = onArr (st.h i) none fun e sz xs => some (.fresh e sz xs) := by
  simp only [outAV, hk, if_true]; cases st.h i <;> rfl
theorem q_res_tmp (t : Tmp) : resAV P st (.tmp t) = some (st.σ t) := nrfl _
theorem q_res_cell (p : Tmp) (t : TypeId) : resAV P st (.cell p t) = ldAV P st t (st.σ p) := nrfl _
theorem q_result0 : resultAV P st [] = some (.tup []) := by simp [resultAV]
/-- The result of one variable. -/
def out1 (st : St) : AV → Option AV
  | .tup _ => none
  | r => outAV st r
theorem q_o1_v (x : Value) : out1 st (.v x) = some (.v x) := nrfl _
theorem q_o1_agg (cs : List AV) : out1 st (.agg cs) = some (.agg cs) := nrfl _
theorem q_o1_lst (sz : Nat) (xs : List AV) : out1 st (.lst sz xs) = some (.lst sz xs) := nrfl _
theorem q_o1_fn (f : Fn) (a b : List AV) : out1 st (.fn f a b) = some (.fn f a b) := nrfl _
theorem q_o1_ref (i k : Nat) (hk : k = st.ver i) : out1 st (.ref i k) = onArr (st.h i) none fun e sz xs => some (.fresh e sz xs) := q_out_ref _ _ hk
theorem q_o1_mapv (es : Array MapEntry) (clk : Nat) : out1 st (.mapv es clk) = some (.mapv es clk) := nrfl _
theorem q_result1 (v : ResultVar) : resultAV P st [v] = (resAV P st v).bind (out1 st) := by
  simp only [resultAV]; congr 1
def refs : List AV → List Nat
  | [] => []
  | p :: ps => match refId p with
    | some i => i :: refs ps
    | none => refs ps
theorem refs_eq : ∀ l : List AV, l.filterMap refId = refs l
  | [] => rfl
  | p :: l => by
    rw [List.filterMap_cons, refs, refs_eq l]
    cases refId p <;> rfl
theorem q_result2 (v w : ResultVar) : resultAV P st [v, w] = (resAV P st v).bind fun a => (resAV P st w).bind fun b => if (refs [a, b]).Nodup then (outAV st a).bind fun a => (outAV st b).map fun b => .tup [a, b] else none := by
  simp only [resultAV, List.mapM_cons, List.mapM_nil, Option.bind_eq_bind, Option.pure_def]
  cases resAV P st v with
  | none => rfl
  | some a =>
    cases resAV P st w with
    | none => rfl
    | some b =>
      simp only [Option.bind_some, refs_eq]
      split
      · cases h1 : outAV st a <;> cases h2 : outAV st b <;> simp [List.mapM_cons, h1, h2]
      · rfl
theorem q_refs_nil : refs [] = [] := nrfl _
theorem q_refs_v (x : Value) (l : List AV) : refs (.v x :: l) = refs l := nrfl _
theorem q_refs_agg (cs : List AV) (l : List AV) : refs (.agg cs :: l) = refs l := nrfl _
theorem q_refs_lst (sz : Nat) (xs : List AV) (l : List AV) : refs (.lst sz xs :: l) = refs l := nrfl _
theorem q_refs_ref (i k : Nat) (l : List AV) : refs (.ref i k :: l) = i :: refs l := nrfl _

theorem q_take_v (d : Nat) (x : Value) : St.take d (.v x) st = (st, .v x) := nrfl _
theorem q_take_agg (d : Nat) (cs : List AV) : St.take d (.agg cs) st = (st, .agg cs) := nrfl _
theorem q_take_full (d sz : Nat) (xs : List AV) : St.take d (.full sz xs) st = (st, .full sz xs) := nrfl _
theorem q_take_lst (d sz : Nat) (xs : List AV) : St.take d (.lst sz xs) st = (st, .lst sz xs) := nrfl _
theorem q_take_eptr (d j : Nat) (cs : List AV) : St.take d (.eptr cs j) st = (st, .eptr cs j) := nrfl _
theorem q_take_fn (d : Nat) (f : Fn) (a b : List AV) : St.take d (.fn f a b) st = (st, .fn f a b) := nrfl _
theorem q_take_fresh (d e sz : Nat) (xs : List AV) : St.take d (.fresh e sz xs) st = (st.setArr d e sz xs, .ref d (st.ver d + 1)) := nrfl _
theorem q_take_tup (d : Nat) (rs : List AV) : St.take d (.tup rs) st = ((St.takeComps d 0 rs st).1, .tup (St.takeComps d 0 rs st).2) := nrfl _
theorem q_tc_nil (d i : Nat) : St.takeComps d i [] st = (st, []) := nrfl _
theorem q_tc_fresh (d i e sz : Nat) (xs rs : List AV) : St.takeComps d i (.fresh e sz xs :: rs) st = ((St.takeComps d (i + 1) rs (st.setArr (compId d i) e sz xs)).1, .ref (compId d i) (st.ver (compId d i) + 1) :: (St.takeComps d (i + 1) rs (st.setArr (compId d i) e sz xs)).2) := nrfl _
theorem q_tc_v (d i : Nat) (x : Value) (rs : List AV) : St.takeComps d i (.v x :: rs) st = ((St.takeComps d (i + 1) rs st).1, .v x :: (St.takeComps d (i + 1) rs st).2) := nrfl _
theorem q_tc_agg (d i : Nat) (cs : List AV) (rs : List AV) : St.takeComps d i (.agg cs :: rs) st = ((St.takeComps d (i + 1) rs st).1, .agg cs :: (St.takeComps d (i + 1) rs st).2) := nrfl _
theorem q_tc_lst (d i sz : Nat) (xs : List AV) (rs : List AV) : St.takeComps d i (.lst sz xs :: rs) st = ((St.takeComps d (i + 1) rs st).1, .lst sz xs :: (St.takeComps d (i + 1) rs st).2) := nrfl _

theorem q_bo_v (x : Value) : borrow st (.v x) = .v x := nrfl _
theorem q_bo_agg (cs : List AV) : borrow st (.agg cs) = .agg cs := nrfl _
theorem q_bo_lst (sz : Nat) (xs : List AV) : borrow st (.lst sz xs) = .lst sz xs := nrfl _
theorem q_bo_eptr (cs : List AV) (j : Nat) : borrow st (.eptr cs j) = .eptr cs j := nrfl _
theorem q_bo_ref (i k : Nat) (hk : k = st.ver i) : borrow st (.ref i k) = onRef (st.h i) .junk (fun _ sz xs => .lst sz xs) (fun es clk => .mapv es clk) := by
  simp only [borrow, borrow1, borrow0, hk, if_true]; cases st.h i <;> rfl
theorem q_fz_v (x : Value) : fz st id (.v x) = .v x := nrfl _
theorem q_fz_full (sz : Nat) (xs : List AV) : fz st id (.full sz xs) = .full sz xs := nrfl _
theorem q_fz_lst (sz : Nat) (xs : List AV) : fz st id (.lst sz xs) = .lst sz xs := nrfl _
theorem q_fz_eptr (cs : List AV) (j : Nat) : fz st id (.eptr cs j) = .eptr cs j := nrfl _
theorem q_fz_tup (cs : List AV) : fz st id (.tup cs) = .tup cs := nrfl _
theorem q_fz_junk : fz st id .junk = .junk := nrfl _
theorem q_fz_ref (i k : Nat) : fz st id (.ref i k) = fz0 st id (.ref i k) := nrfl _
theorem q_fz_rptr (i k n j : Nat) : fz st id (.rptr i k n j) = fz0 st id (.rptr i k n j) := nrfl _
theorem q_fz_agg (cs : List AV) : fz st id (.agg cs) = .agg (cs.map (fz0 st id)) := nrfl _
theorem q_fz_fn (f : Fn) (a b : List AV) : fz st id (.fn f a b) = .fn f (a.map (fz0 st id)) (b.map (fz0 st id)) := nrfl _
theorem q_fz0_v (x : Value) : fz0 st id (.v x) = .v x := nrfl _
theorem q_fz0_lst (sz : Nat) (xs : List AV) : fz0 st id (.lst sz xs) = .lst sz xs := nrfl _
theorem q_fz0_eptr (cs : List AV) (j : Nat) : fz0 st id (.eptr cs j) = .eptr cs j := nrfl _
theorem q_fz0_same (k : Nat) (hk : k = st.ver id) : fz0 st id (.ref id k) = onRef (st.h id) (.ref id k) (fun _ sz xs => .lst sz xs) (fun es clk => .mapv es clk) := by
  simp only [fz0, hk, and_self, if_true]; cases st.h id <;> rfl
theorem q_fz0_other (i k : Nat) (hi : i ≠ id) : fz0 st id (.ref i k) = .ref i k := by simp [fz0, hi]
theorem q_fz0_rother (i k n j : Nat) (hi : i ≠ id) : fz0 st id (.rptr i k n j) = .rptr i k n j := by simp [fz0, hi]
theorem q_fz0_box (k n j : Nat) (hk : k = st.ver id) : fz0 st id (.rptr id k n j) = onBlk (st.h id) (.rptr id k n j) (fun _ _ xs => (xs[n]?).elim (.rptr id k n j) fun x => .eptr x.cells j) (fun cs => if n = 0 then .eptr cs j else .rptr id k n j) := by
  simp only [fz0, hk, and_self, if_true]
  cases st.h id with
  | arr e sz xs => simp only [onBlk]; cases xs[n]? <;> rfl
  | _ => rfl
theorem q_fz_mapv (es : Array MapEntry) (clk : Nat) : fz st id (.mapv es clk) = .mapv es clk := nrfl _
theorem q_fz0_mapv (es : Array MapEntry) (clk : Nat) : fz0 st id (.mapv es clk) = .mapv es clk := nrfl _
theorem q_bo_mapv (es : Array MapEntry) (clk : Nat) : borrow st (.mapv es clk) = .mapv es clk := nrfl _
theorem q_out_mapv (es : Array MapEntry) (clk : Nat) : outAV st (.mapv es clk) = some (.mapv es clk) := nrfl _
theorem q_take_mapv (d : Nat) (es : Array MapEntry) (clk : Nat) : St.take d (.mapv es clk) st = (st, .mapv es clk) := nrfl _
theorem q_cells_mapv (es : Array MapEntry) (clk : Nat) : (AV.mapv es clk).cells = [.mapv es clk] := nrfl _
theorem q_fzB_map (es : Array MapEntry) (clk : Nat) : fzB st id (.map es clk) = .map es clk := nrfl _
theorem q_fzB_obj (x : Obj) : fzB st id (.obj x) = .obj x := nrfl _
theorem q_fzB_none : fzB st id .none = .none := nrfl _
theorem q_fzB_arr (e sz : Nat) (xs : List AV) : fzB st id (.arr e sz xs) = .arr e sz xs := nrfl _
theorem q_fzB_box (cs : List AV) : fzB st id (.box cs) = .box (cs.map (fz st id)) := nrfl _
theorem q_nf_v (x : Value) : noFresh (.v x) = true := nrfl _
theorem q_nf_agg (cs : List AV) : noFresh (.agg cs) = true := nrfl _
theorem q_nf_lst (sz : Nat) (xs : List AV) : noFresh (.lst sz xs) = true := nrfl _

end
section
variable {G : Ctx} {own : List Nat} {st : St} {K : St → Prop} {KA : AV → Prop} {Q : Exit → St → Prop} {QS : St → Prop} {ops : Array Oper} {dst : Option Tmp} {ty : TypeId} {po : String} {af : Array Edge} {gd : Option (Nat × Bool)}

theorem w_move (x : Operand) : vcOp G own K ⟨dst, .move x, ty, po, af, gd⟩ st = bindP (evalV G.P st (.move x)) fun r => K (st.put dst r) := nrfl _
theorem c_move (x : Operand) : calmThen G ⟨dst, .move x, ty, po, af, gd⟩ KA st = bindP (evalV G.P st (.move x)) KA := nrfl _
theorem w_assign (x : Operand) : vcOp G own K ⟨dst, .assign x, ty, po, af, gd⟩ st = bindP (evalV G.P st (.assign x)) fun r => K (st.put dst r) := nrfl _
theorem c_assign (x : Operand) : calmThen G ⟨dst, .assign x, ty, po, af, gd⟩ KA st = bindP (evalV G.P st (.assign x)) KA := nrfl _
theorem w_pick (c x y : Operand) : vcOp G own K ⟨dst, .pick c x y, ty, po, af, gd⟩ st = bindP (evalV G.P st (.pick c x y)) fun r => K (st.put dst r) := nrfl _
theorem c_pick (c x y : Operand) : calmThen G ⟨dst, .pick c x y, ty, po, af, gd⟩ KA st = bindP (evalV G.P st (.pick c x y)) KA := nrfl _
theorem w_load (t : TypeId) (x : Operand) : vcOp G own K ⟨dst, .load t x, ty, po, af, gd⟩ st = bindP (evalV G.P st (.load t x)) fun r => K (st.put dst r) := nrfl _
theorem c_load (t : TypeId) (x : Operand) : calmThen G ⟨dst, .load t x, ty, po, af, gd⟩ KA st = bindP (evalV G.P st (.load t x)) KA := nrfl _
theorem w_unOp (op : UnOp) (t : TypeId) (x : Operand) : vcOp G own K ⟨dst, .unOp op t x, ty, po, af, gd⟩ st = bindP (evalV G.P st (.unOp op t x)) fun r => K (st.put dst r) := nrfl _
theorem c_unOp (op : UnOp) (t : TypeId) (x : Operand) : calmThen G ⟨dst, .unOp op t x, ty, po, af, gd⟩ KA st = bindP (evalV G.P st (.unOp op t x)) KA := nrfl _
theorem w_convert (t u : TypeId) (x : Operand) : vcOp G own K ⟨dst, .convert t u x, ty, po, af, gd⟩ st = bindP (evalV G.P st (.convert t u x)) fun r => K (st.put dst r) := nrfl _
theorem c_convert (t u : TypeId) (x : Operand) : calmThen G ⟨dst, .convert t u x, ty, po, af, gd⟩ KA st = bindP (evalV G.P st (.convert t u x)) KA := nrfl _
theorem w_makeFunc (f : Fn) (as' bs : Array Operand) : vcOp G own K ⟨dst, .makeFunc f as' bs, ty, po, af, gd⟩ st = bindP (evalV G.P st (.makeFunc f as' bs)) fun r => K (st.put dst r) := nrfl _
theorem c_makeFunc (f : Fn) (as' bs : Array Operand) : calmThen G ⟨dst, .makeFunc f as' bs, ty, po, af, gd⟩ KA st = bindP (evalV G.P st (.makeFunc f as' bs)) KA := nrfl _
theorem w_fieldAddr (t : TypeId) (x : Operand) (n : Nat) : vcOp G own K ⟨dst, .fieldAddr t x n, ty, po, af, gd⟩ st = bindP (evalV G.P st (.fieldAddr t x n)) fun r => K (st.put dst r) := nrfl _
theorem c_fieldAddr (t : TypeId) (x : Operand) (n : Nat) : calmThen G ⟨dst, .fieldAddr t x n, ty, po, af, gd⟩ KA st = bindP (evalV G.P st (.fieldAddr t x n)) KA := nrfl _
theorem w_field (t : TypeId) (x : Operand) (n : Nat) : vcOp G own K ⟨dst, .field t x n, ty, po, af, gd⟩ st = bindP (evalV G.P st (.field t x n)) fun r => K (st.put dst r) := nrfl _
theorem c_field (t : TypeId) (x : Operand) (n : Nat) : calmThen G ⟨dst, .field t x n, ty, po, af, gd⟩ KA st = bindP (evalV G.P st (.field t x n)) KA := nrfl _
theorem w_indexAddr (t : TypeId) (x i : Operand) : vcOp G own K ⟨dst, .indexAddr t x i, ty, po, af, gd⟩ st = bindP (evalV G.P st (.indexAddr t x i)) fun r => K (st.put dst r) := nrfl _
theorem c_indexAddr (t : TypeId) (x i : Operand) : calmThen G ⟨dst, .indexAddr t x i, ty, po, af, gd⟩ KA st = bindP (evalV G.P st (.indexAddr t x i)) KA := nrfl _
theorem w_index (t : TypeId) (x i : Operand) : vcOp G own K ⟨dst, .index t x i, ty, po, af, gd⟩ st = bindP (evalV G.P st (.index t x i)) fun r => K (st.put dst r) := nrfl _
theorem c_index (t : TypeId) (x i : Operand) : calmThen G ⟨dst, .index t x i, ty, po, af, gd⟩ KA st = bindP (evalV G.P st (.index t x i)) KA := nrfl _
theorem w_lookup (t : TypeId) (m k : Operand) (ok : Bool) : vcOp G own K ⟨dst, .lookup t m k ok, ty, po, af, gd⟩ st = bindP (evalV G.P st (.lookup t m k ok)) fun r => K (st.put dst r) := nrfl _
theorem c_lookup (t : TypeId) (m k : Operand) (ok : Bool) : calmThen G ⟨dst, .lookup t m k ok, ty, po, af, gd⟩ KA st = bindP (evalV G.P st (.lookup t m k ok)) KA := nrfl _
theorem w_makeMap (d : Tmp) (t : TypeId) (r : Option Operand) : vcOp G own K ⟨some d, .makeMap t r, ty, po, af, gd⟩ st = ((tMap G.P t).isSome = true ∧ hintOK st r ∧ K ((st.setMap (G.ids d) #[] 0).put (some d) (.ref (G.ids d) (st.ver (G.ids d) + 1)))) := nrfl _
theorem w_mapUpdate (t : TypeId) (m k x : Operand) : vcOp G own K ⟨dst, .mapUpdate t m k x, ty, po, af, gd⟩ st = bindP (tMap G.P t) fun y => onKeyQ (st.ev k) (fun q => q.okT G.P y.1 = true ∧ onMap st (st.ev m) fun id es clk => qM es q = true ∧ onVal (st.ev x) fun v => K ((st.setH id (.map (qput es clk q v).1 (qput es clk q v).2)).put dst .junk)) (tInt G.P y.1 = some .i64 ∧ onMap st (st.ev m) fun id es clk => intM es = true ∧ onKey (st.ev k) (st.ev x) fun n v => K ((st.setH id (.map (mput es clk n v).1 (mput es clk n v).2)).put dst .junk)) := nrfl _
theorem w_clear (x : Operand) (t : TypeId) : vcOp G own K ⟨dst, .call { callee := .builtin .clear, args := #[x], argTypes := #[t] }, ty, po, af, gd⟩ st = onOslC st (st.ev x) (fun id e sz xs lo hi => tElem G.P t = some e ∧ bindP (tZero G.P e) fun z => (z.cells.toList.all (·.oneCell') = true ∧ z.cells.size = sz ∧ 0 < sz) ∧
          K ((st.setH id (.arr e sz (xs.take lo ++ List.replicate (hi - lo) (.agg (valCells z)) ++ xs.drop hi))).put dst (.tup [])))
        ((tMap G.P t).isSome = true ∧ onMap st (st.ev x) fun id _ clk => K ((st.setH id (.map #[] clk)).put dst (.tup []))) := nrfl _
theorem w_extract (x : Operand) (i : Nat) : vcOp G own K ⟨dst, .extract x i, ty, po, af, gd⟩ st = bindP (evalV G.P st (.extract x i)) fun r => K (st.put dst r) := nrfl _
theorem c_extract (x : Operand) (i : Nat) : calmThen G ⟨dst, .extract x i, ty, po, af, gd⟩ KA st = bindP (evalV G.P st (.extract x i)) KA := nrfl _
theorem w_slice (t : TypeId) (x : Operand) (lo hi mx : Option Operand) : vcOp G own K ⟨dst, .slice t x lo hi mx, ty, po, af, gd⟩ st = onRptr (st.ev x) (fun id => bindP (evalV G.P (st.freeze id) (.slice t x lo hi mx)) fun r => K ((st.freeze id).put dst r)) (bindP (evalV G.P st (.slice t x lo hi mx)) fun r => K (st.put dst r)) := nrfl _
theorem q_onRptr_r (id k i j : Nat) (a : Nat → Prop) (b : Prop) : onRptr (.rptr id k i j) a b = a id := nrfl _
theorem q_onRptr_v (x : Value) (a : Nat → Prop) (b : Prop) : onRptr (.v x) a b = b := nrfl _
theorem q_onRptr_l (sz : Nat) (xs : List AV) (a : Nat → Prop) (b : Prop) : onRptr (.lst sz xs) a b = b := nrfl _
theorem q_onRptr_f (id k : Nat) (a : Nat → Prop) (b : Prop) : onRptr (.ref id k) a b = b := nrfl _
theorem q_onRptr_m (es : Array MapEntry) (clk : Nat) (a : Nat → Prop) (b : Prop) : onRptr (.mapv es clk) a b = b := nrfl _
theorem q_onRptr_e (cs : List AV) (j : Nat) (a : Nat → Prop) (b : Prop) : onRptr (.eptr cs j) a b = b := nrfl _
theorem c_slice (t : TypeId) (x : Operand) (lo hi mx : Option Operand) : calmThen G ⟨dst, .slice t x lo hi mx, ty, po, af, gd⟩ KA st = bindP (evalV G.P st (.slice t x lo hi mx)) KA := nrfl _
theorem w_clen (xs : Array Operand) (ts : Array TypeId) : vcOp G own K ⟨dst, .call { callee := .builtin .len, args := xs, argTypes := ts }, ty, po, af, gd⟩ st = bindP (evalV G.P st (.call { callee := .builtin .len, args := xs, argTypes := ts })) fun r => K (st.put dst r) := nrfl _
theorem w_cmin (xs : Array Operand) (ts : Array TypeId) : vcOp G own K ⟨dst, .call { callee := .builtin .min, args := xs, argTypes := ts }, ty, po, af, gd⟩ st = bindP (evalV G.P st (.call { callee := .builtin .min, args := xs, argTypes := ts })) fun r => K (st.put dst r) := nrfl _
theorem w_cmax (xs : Array Operand) (ts : Array TypeId) : vcOp G own K ⟨dst, .call { callee := .builtin .max, args := xs, argTypes := ts }, ty, po, af, gd⟩ st = bindP (evalV G.P st (.call { callee := .builtin .max, args := xs, argTypes := ts })) fun r => K (st.put dst r) := nrfl _
theorem c_clen (xs : Array Operand) (ts : Array TypeId) : calmThen G ⟨dst, .call { callee := .builtin .len, args := xs, argTypes := ts }, ty, po, af, gd⟩ KA st = bindP (evalV G.P st (.call { callee := .builtin .len, args := xs, argTypes := ts })) KA := nrfl _
theorem w_call (f : Operand) (xs : Array Operand) (ts : Array TypeId) : vcOp G own K ⟨dst, .call { callee := .value f, args := xs, argTypes := ts }, ty, po, af, gd⟩ st = onFn2 (st.ev f) (fun g first captured => CallSem G g (first ++ (xs.toList.map st.ev ++ captured)) dst K st) (fun l => YieldSem G l (xs.toList.map st.ev) dst K st) := nrfl _
theorem c_call (f : Operand) (xs : Array Operand) (ts : Array TypeId) : calmThen G ⟨dst, .call { callee := .value f, args := xs, argTypes := ts }, ty, po, af, gd⟩ KA st = onFn (st.ev f) fun g first captured => CalmThen G g (first ++ (xs.toList.map st.ev ++ captured)) KA st := nrfl _
theorem c_binOp (op : BinOp) (t u : TypeId) (x y : Operand) : calmThen G ⟨dst, .binOp op t x y u, ty, po, af, gd⟩ KA st = bindP (evalV G.P st (.binOp op t x y u)) KA := nrfl _
theorem c_box (t : TypeId) (x : Operand) : calmThen G ⟨dst, .box t x, ty, po, af, gd⟩ KA st = bindP (if dst.isSome = true ∧ okCells st (st.ev x) = true then some (.eptr (st.ev x).cells 0) else none) KA := nrfl _
theorem c_build (t : TypeId) (ps : Array (Nat × Operand)) : calmThen G ⟨dst, .build t ps, ty, po, af, gd⟩ KA st = bindP (buildAV G.P st t ps) KA := nrfl _
theorem c_buildSlice (t : TypeId) (n : Nat) (ps : Array (Nat × Operand)) : calmThen G ⟨dst, .buildSlice t n ps, ty, po, af, gd⟩ KA st = bindP (if dst.isSome = true then (litAV G.P st t n ps).map fun x => .lst x.2.1 x.2.2 else none) KA := nrfl _
theorem w_alloc (d : Tmp) (t : TypeId) : vcOp G own K ⟨some d, .alloc t, ty, po, af, gd⟩ st = bindP (tZero G.P t) fun z => (valCells z).all (okCell st) = true ∧ K ((st.setBox (G.ids d) (valCells z)).put (some d) (.rptr (G.ids d) (st.ver (G.ids d) + 1) 0 0)) := nrfl _
theorem w_box (d : Tmp) (t : TypeId) (x : Operand) : vcOp G own K ⟨some d, .box t x, ty, po, af, gd⟩ st = (okCells st (st.ev x) = true ∧ if d ∈ own then K ((st.setBox (G.ids d) (st.ev x).cells).put (some d) (.rptr (G.ids d) (st.ver (G.ids d) + 1) 0 0)) else K (st.put (some d) (.eptr (st.ev x).cells 0))) := nrfl _
theorem w_build (t : TypeId) (ps : Array (Nat × Operand)) : vcOp G own K ⟨dst, .build t ps, ty, po, af, gd⟩ st = bindP (buildAV G.P st t ps) fun r => K (st.put dst r) := nrfl _
theorem w_buildSlice (d : Tmp) (t : TypeId) (n : Nat) (ps : Array (Nat × Operand)) : vcOp G own K ⟨some d, .buildSlice t n ps, ty, po, af, gd⟩ st = bindP (litAV G.P st t n ps) fun x => if d ∈ own then K ((st.setArr (G.ids d) x.1 x.2.1 x.2.2).put (some d) (.ref (G.ids d) (st.ver (G.ids d) + 1))) else K (st.put (some d) (.lst x.2.1 x.2.2)) := nrfl _
theorem w_binOp (op : BinOp) (t u : TypeId) (x y : Operand) : vcOp G own K ⟨dst, .binOp op t x y u, ty, po, af, gd⟩ st = onNil (nilSrc st (st.ev x))
      (fun xs => st.ev y = .v (.slice none 0 0) ∧ (tElem G.P t).isSome = true ∧ ((op = .eql ∧ ∀ b : Bool, (b = true → xs = []) → K (st.put dst (.v (.bool b)))) ∨ (op = .neq ∧ ∀ b : Bool, (b = false → xs = []) → K (st.put dst (.v (.bool b))))))
      (bindP (evalV G.P st (.binOp op t x y u)) fun r => K (st.put dst r)) := rfl
theorem w_make (d : Tmp) (t : TypeId) (l c : Operand) : vcOp G own K ⟨some d, .makeSlice t l c, ty, po, af, gd⟩ st = bindP (tElem G.P t) fun e => bindP (tSize G.P e) fun sz => bindP (tBytes G.P e) fun bytes => bindP (tZero G.P e) fun z => bindP (natOf (st.ev c)) fun C => bindP (natOf (st.ev l)) fun L => ((L = 0 ∨ (L = C ∧ sz = 1 ∧ z.oneCell' = true)) ∧ bytes * C ≤ 281474976710656 ∧ C ≤ 281474976710656) ∧ K ((st.setArr (G.ids d) e sz (List.replicate L (.v z))).put (some d) (.ref (G.ids d) (st.ver (G.ids d) + 1))) := nrfl _
theorem w_store (t : TypeId) (p x : Operand) : vcOp G own K ⟨dst, .store t p x, ty, po, af, gd⟩ st = bindP (storeSt G.P st t (st.ev p) (st.ev x)) fun st' => K (st'.put dst .junk) := nrfl _
theorem w_append (d : Tmp) (t t' : TypeId) (p q : Operand) : vcOp G own K ⟨some d, .call { callee := .builtin .append, args := #[p, q], argTypes := #[t, t'] }, ty, po, af, gd⟩ st = (t' = t ∧ bindP (tElem G.P t) fun e => bindP (tSize G.P e) fun sz => bindP (tBytes G.P e) fun bytes => ((tZero G.P e).map (·.cells.size) = some sz ∧ 0 < sz) ∧
          onFull (fullOf (st.ev p)) (fun sz' xs => sz' = sz ∧ bindP (srcAV st sz (st.ev q)) fun ys => (okAll st ys ∧ (xs.length + ys.length) * bytes ≤ 140737488355328 ∧ xs.length + ys.length ≤ 140737488355328) ∧
            (ys = [] → K (st.put (some d) (.lst sz xs))) ∧ (ys ≠ [] → K ((st.setArr (G.ids d) e sz (xs ++ ys)).put (some d) (.ref (G.ids d) (st.ver (G.ids d) + 1)))))
          (onOsl (oslOf st (st.ev p)) (fun id e' sz' xs lo hi => (e' = e ∧ sz' = sz) ∧ bindP (srcAV st sz (st.ev q)) fun ys => (okAll st ys ∧ (hi - lo + ys.length) * bytes ≤ 140737488355328 ∧ hi - lo + ys.length ≤ 140737488355328) ∧
            (ys = [] → lo = 0 ∧ K ((st.setArr id e sz (xs.take hi)).put (some d) (.ref id (st.ver id + 1)))) ∧ (ys ≠ [] → K ((st.setArr (G.ids d) e sz ((xs.drop lo).take (hi - lo) ++ ys)).put (some d) (.ref (G.ids d) (st.ver (G.ids d) + 1)))))
          (bindP (destAV st (G.ids d) e sz (st.ev p)) fun dx => bindP (srcAV st sz (st.ev q)) fun ys => (okAll st ys ∧ (dx.2.length + ys.length) * bytes ≤ 140737488355328 ∧ dx.2.length + ys.length ≤ 140737488355328) ∧
          K ((st.setArr dx.1 e sz (dx.2 ++ ys)).put (some d) (.ref dx.1 (st.ver dx.1 + 1)))))) := rfl
theorem q_oslOf_v (x : Value) : oslOf st (.v x) = none := nrfl _
theorem q_oslOf_ref (i k : Nat) : oslOf st (.ref i k) = none := nrfl _
theorem q_oslOf_lst (sz : Nat) (xs : List AV) : oslOf st (.lst sz xs) = none := nrfl _
theorem q_oslOf_osl (i k lo hi : Nat) (hk : k = st.ver i) : oslOf st (.osl i k lo hi true) = onArr (st.h i) none fun e sz xs => if lo ≤ hi ∧ hi ≤ xs.length then some (i, e, sz, xs, lo, hi) else none := by
  simp only [oslOf, hk, if_true]; cases st.h i <;> rfl
theorem q_fullOf_osl (i k lo hi : Nat) (f : Bool) : fullOf (.osl i k lo hi f) = none := nrfl _
theorem q_src_osl (sz i k lo hi : Nat) (f : Bool) (hk : k = st.ver i) : srcAV st sz (.osl i k lo hi f) = onArr (st.h i) none fun _ sz' xs => if sz' = sz ∧ lo ≤ hi ∧ hi ≤ xs.length then some ((xs.drop lo).take (hi - lo)) else none := by
  simp only [srcAV, hk, if_true]; cases st.h i <;> rfl
theorem q_sl_ref (P : Program) (t : TypeId) (lo hi : Option Operand) (i k : Nat) (hk : k = st.ver i) : sliceAV P st t lo hi none (.ref i k) = onArr (st.h i) none fun _ sz xs => if ((tElem P t).bind (tSize P)) = some sz then
    (boundAV st 0 lo).bind fun l => (boundAV st xs.length hi).bind fun h => if l ≤ h ∧ h ≤ xs.length then some (.osl i k l h false) else none else none := by
  simp only [sliceAV, hk, if_true]
  cases st.h i with
  | arr e sz xs =>
    simp only [onArr]
    split
    · cases boundAV st 0 lo <;> cases boundAV st xs.length hi <;> rfl
    · rfl
  | _ => rfl
theorem q_sl_refF (P : Program) (t : TypeId) (lo : Option Operand) (h' m' : Operand) (i k : Nat) (hk : k = st.ver i) : sliceAV P st t lo (some h') (some m') (.ref i k) = onArr (st.h i) none fun _ sz xs => if ((tElem P t).bind (tSize P)) = some sz then
    (boundAV st 0 lo).bind fun l => (boundAV st xs.length (some h')).bind fun h => if l ≤ h ∧ h ≤ xs.length then (boundAV st 0 (some m')).bind fun m => if m = h then some (.osl i k l h true) else none else none else none := by
  simp only [sliceAV, hk, if_true]
  cases st.h i with
  | arr e sz xs =>
    simp only [onArr]
    split
    · cases boundAV st 0 (some m') <;> cases boundAV st 0 lo <;> cases boundAV st xs.length (some h') <;> rfl
    · rfl
  | _ => rfl
theorem q_cells_osl (i k lo hi : Nat) (f : Bool) : (AV.osl i k lo hi f).cells = [.osl i k lo hi f] := nrfl _
theorem q_fz_osl (id i k lo hi : Nat) (f : Bool) : fz st id (.osl i k lo hi f) = fz0 st id (.osl i k lo hi f) := nrfl _
theorem q_fz0_osl (id k lo hi : Nat) (f : Bool) (hk : k = st.ver id) : fz0 st id (.osl id k lo hi f) = onArr (st.h id) (.osl id k lo hi f) fun _ sz xs => if lo ≤ hi ∧ hi ≤ xs.length then .lst sz ((xs.drop lo).take (hi - lo)) else .osl id k lo hi f := by
  subst hk; simp only [fz0, true_and, if_true]; cases st.h id <;> rfl
theorem q_fz0_oslo (id i k lo hi : Nat) (f : Bool) (hi' : i ≠ id) : fz0 st id (.osl i k lo hi f) = .osl i k lo hi f := by simp [fz0, hi']
theorem q_onOslC_osl (i k lo hi : Nat) (f : Bool) (F : Nat → Nat → Nat → List AV → Nat → Nat → Prop) (no : Prop) (hk : k = st.ver i) : onOslC st (.osl i k lo hi f) F no = onArr (st.h i) False fun e sz xs => (lo ≤ hi ∧ hi ≤ xs.length) ∧ F i e sz xs lo hi := by
  subst hk; simp only [onOslC, true_and]; cases st.h i <;> rfl
theorem q_onOslC_ref (i k : Nat) (F : Nat → Nat → Nat → List AV → Nat → Nat → Prop) (no : Prop) : onOslC st (.ref i k) F no = no := nrfl _
theorem q_len_osl {P : Program} (t : TypeId) (i k lo hi : Nat) (f : Bool) (hk : k = st.ver i) : lenAV P st t (.osl i k lo hi f) = onArr (st.h i) none fun _ _ xs => if lo ≤ hi ∧ hi ≤ xs.length then (tElem P t).map fun _ => .v (.int .i64 ((hi - lo : Nat) : Int)) else none := by
  subst hk; simp only [lenAV, if_true]; cases st.h i <;> rfl
theorem q_ia_osl {P : Program} (t : TypeId) (j k lo hi : Nat) (f : Bool) (kk : IntKind) (i : Int) (hk : k = st.ver j) : indexAddrAV P st t (.osl j k lo hi f) (.v (.int kk i)) = onArr (st.h j) none fun _ sz xs => if ((tElem P t).bind (tSize P)) = some sz ∧ 0 ≤ i ∧ i < ((hi - lo : Nat) : Int) ∧ hi ≤ xs.length then some (.rptr j k (lo + i.toNat) 0) else none := by
  subst hk; simp only [indexAddrAV, if_true]; cases st.h j <;> rfl
theorem q_dj_osl (X : List Nat) (i k lo hi : Nat) (f : Bool) : dj X (.osl i k lo hi f) = !(X.contains i) := nrfl _
theorem q_take_osl (d i k lo hi : Nat) (f : Bool) : St.take d (.osl i k lo hi f) st = (st, .osl i k lo hi f) := nrfl _
theorem q_nil_osl (i k lo hi : Nat) (f : Bool) : nilSrc st (.osl i k lo hi f) = none := nrfl _
theorem q_fzB_iter (id : Nat) (es : Array MapEntry) (clk : Nat) (done : List MapEntry) : fzB st id (.iter es clk done) = .iter es clk done := nrfl _
theorem q_setIter_σ (i : Nat) (es : Array MapEntry) (clk : Nat) (done : List MapEntry) : (st.setIter i es clk done).σ = st.σ := nrfl _
theorem q_setIter_ver (i : Nat) (es : Array MapEntry) (clk : Nat) (done : List MapEntry) (j : Nat) : (st.setIter i es clk done).ver j = if j = i then st.ver i + 1 else st.ver j := nrfl _
theorem q_setIter_h (i : Nat) (es : Array MapEntry) (clk : Nat) (done : List MapEntry) (j : Nat) : (st.setIter i es clk done).h j = if j = i then .iter es clk done else st.h j := nrfl _
theorem q_onMapF_v (es : Array MapEntry) (clk : Nat) (f : Array MapEntry → Nat → St → Prop) : onMapF st (.mapv es clk) f = f es clk st := nrfl _
theorem q_onMapF_ref (i k : Nat) (f : Array MapEntry → Nat → St → Prop) (hk : k = st.ver i) : onMapF st (.ref i k) f = onMapB (st.h i) fun es clk => f es clk (st.freeze i) := by
  subst hk; simp only [onMapF, true_and]; rfl
theorem w_mrange (d : Tmp) (t : TypeId) (x : Operand) : vcOp G own K ⟨some d, .range t x, ty, po, af, gd⟩ st = ((tMap G.P t).isSome = true ∧ onMapF st (st.ev x) fun es clk st => mapOK es clk ∧ K ((st.setIter (G.ids d) es clk []).put (some d) (.rptr (G.ids d) (st.ver (G.ids d) + 1) 0 0))) := nrfl _
theorem w_next (x : Operand) : vcOp G own K ⟨dst, .next x false, ty, po, af, gd⟩ st = onIter st (st.ev x) fun id es clk done => NextK K dst id es clk done st := by
  show (false = false ∧ _) = _
  simp only [true_and]
theorem w_entry (x : Operand) : vcOp G own K ⟨dst, .entry x, ty, po, af, gd⟩ st = onIter st (st.ev x) fun _ _ _ done => bindP done.getLast? fun e => K (st.put dst (.tup [.v e.key, .v e.val])) := nrfl _
theorem q_fullOf_full (sz : Nat) (xs : List AV) : fullOf (.full sz xs) = some (sz, xs) := nrfl _
theorem q_fullOf_v (x : Value) : fullOf (.v x) = none := nrfl _
theorem q_fullOf_ref (i k : Nat) : fullOf (.ref i k) = none := nrfl _
theorem q_fullOf_lst (sz : Nat) (xs : List AV) : fullOf (.lst sz xs) = none := nrfl _

theorem w_ops_nil : vcOps G own ops QS [] st = QS st := nrfl _
theorem w_ops_none (l : List Oper) (op : Op) : vcOps G own ops QS (⟨dst, op, ty, po, af, none⟩ :: l) st = (dstOK G.n dst ∧ vcOp G own (vcOps G own ops QS l) ⟨dst, op, ty, po, af, none⟩ st) := nrfl _
theorem w_ops_some (l : List Oper) (op : Op) (j : Nat) (want : Bool) : vcOps G own ops QS (⟨dst, op, ty, po, af, some (j, want)⟩ :: l) st = (dstOK G.n dst ∧ bindP (guardSlot ops j) fun t => bindP (guardV (st.σ t) want) fun b => if b = true then vcOp G own (vcOps G own ops QS l) ⟨dst, op, ty, po, af, some (j, want)⟩ st else vcOps G own ops QS l (st.put dst (.v undef))) := by
  simp only [vcOps]
  cases guardSlot ops j <;> simp only [bindP_none, bindP_some]
/-- What comes behind an operation in any order. -/
def calmNext (G : Ctx) (ops : Array Oper) (QS : St → Prop) (l : List Oper) (dst : Option Tmp) (st : St) (r : AV) : Prop := vcCalm G ops QS l (st.put dst r)
theorem c_next (l : List Oper) (r : AV) : calmNext G ops QS l dst st r = vcCalm G ops QS l (st.put dst r) := nrfl _
theorem c_ops_nil : vcCalm G ops QS [] st = QS st := nrfl _
theorem c_ops_none (l : List Oper) (op : Op) : vcCalm G ops QS (⟨dst, op, ty, po, af, none⟩ :: l) st = (dstOK G.n dst ∧ calmThen G ⟨dst, op, ty, po, af, none⟩ (calmNext G ops QS l dst st) st) := nrfl _
theorem c_ops_some (l : List Oper) (op : Op) (j : Nat) (want : Bool) : vcCalm G ops QS (⟨dst, op, ty, po, af, some (j, want)⟩ :: l) st = (dstOK G.n dst ∧ bindP (guardSlot ops j) fun t => bindP (guardV (st.σ t) want) fun b => if b = true then calmThen G ⟨dst, op, ty, po, af, some (j, want)⟩ (calmNext G ops QS l dst st) st else vcCalm G ops QS l (st.put dst (.v undef))) := by
  simp only [vcCalm]
  cases guardSlot ops j <;> simp only [bindP_none, bindP_some] <;> rfl
/-- What comes behind an operation of a region with own writes. -/
def anyNext (G : Ctx) (own X Y early : List Nat) (ops : Array Oper) (QS : St → Prop) (l : List Oper) (st : St) : Prop := vcAny G own X Y early ops QS l st
theorem a_next (X Y early : List Nat) (l : List Oper) : anyNext G own X Y early ops QS l st = vcAny G own X Y early ops QS l st := nrfl _
theorem a_nil (X Y early : List Nat) : vcAny G own X Y early ops QS [] st = QS st := nrfl _
theorem a_calm {X Y early : List Nat} (l : List Oper) (o : Oper) (hk : kindO own o = 0) : vcAny G own X Y early ops QS (o :: l) st = (lateB X (if isEarly early o = true then [] else Y) st o = true ∧ vcCalm G ops (anyNext G own X Y early ops QS l) [o] st) := by
  rw [vcAny, hk]; rfl
theorem a_calmT {X Y early : List Nat} (l : List Oper) (o : Oper) (hk : kindO own o = 0) (hl : lateB X (if isEarly early o = true then [] else Y) st o = true) : vcAny G own X Y early ops QS (o :: l) st = vcCalm G ops (anyNext G own X Y early ops QS l) [o] st := by
  rw [a_calm l o hk, hl]; simp
section
variable {X Y early : List Nat} (l : List Oper)
theorem a_move (x : Operand) : vcAny G own X Y early ops QS (⟨dst, .move x, ty, po, af, gd⟩ :: l) st = vcCalm G ops (anyNext G own X Y early ops QS l) [⟨dst, .move x, ty, po, af, gd⟩] st := a_calmT _ _ rfl rfl
theorem a_assign (x : Operand) : vcAny G own X Y early ops QS (⟨dst, .assign x, ty, po, af, gd⟩ :: l) st = vcCalm G ops (anyNext G own X Y early ops QS l) [⟨dst, .assign x, ty, po, af, gd⟩] st := a_calmT _ _ rfl rfl
theorem a_pick (c x y : Operand) : vcAny G own X Y early ops QS (⟨dst, .pick c x y, ty, po, af, gd⟩ :: l) st = vcCalm G ops (anyNext G own X Y early ops QS l) [⟨dst, .pick c x y, ty, po, af, gd⟩] st := a_calmT _ _ rfl rfl
theorem a_binOp (op : BinOp) (t u : TypeId) (x y : Operand) : vcAny G own X Y early ops QS (⟨dst, .binOp op t x y u, ty, po, af, gd⟩ :: l) st = vcCalm G ops (anyNext G own X Y early ops QS l) [⟨dst, .binOp op t x y u, ty, po, af, gd⟩] st := a_calmT _ _ rfl rfl
theorem a_unOp (op : UnOp) (t : TypeId) (x : Operand) : vcAny G own X Y early ops QS (⟨dst, .unOp op t x, ty, po, af, gd⟩ :: l) st = vcCalm G ops (anyNext G own X Y early ops QS l) [⟨dst, .unOp op t x, ty, po, af, gd⟩] st := a_calmT _ _ rfl rfl
theorem a_convert (s d : TypeId) (x : Operand) : vcAny G own X Y early ops QS (⟨dst, .convert s d x, ty, po, af, gd⟩ :: l) st = vcCalm G ops (anyNext G own X Y early ops QS l) [⟨dst, .convert s d x, ty, po, af, gd⟩] st := a_calmT _ _ rfl rfl
theorem a_extract (x : Operand) (i : Nat) : vcAny G own X Y early ops QS (⟨dst, .extract x i, ty, po, af, gd⟩ :: l) st = vcCalm G ops (anyNext G own X Y early ops QS l) [⟨dst, .extract x i, ty, po, af, gd⟩] st := a_calmT _ _ rfl rfl
theorem a_makeFunc (f : Fn) (as' bs : Array Operand) : vcAny G own X Y early ops QS (⟨dst, .makeFunc f as' bs, ty, po, af, gd⟩ :: l) st = vcCalm G ops (anyNext G own X Y early ops QS l) [⟨dst, .makeFunc f as' bs, ty, po, af, gd⟩] st := a_calmT _ _ rfl rfl
theorem a_field (t : TypeId) (x : Operand) (n : Nat) : vcAny G own X Y early ops QS (⟨dst, .field t x n, ty, po, af, gd⟩ :: l) st = vcCalm G ops (anyNext G own X Y early ops QS l) [⟨dst, .field t x n, ty, po, af, gd⟩] st := a_calmT _ _ rfl rfl
theorem a_index (t : TypeId) (x i : Operand) : vcAny G own X Y early ops QS (⟨dst, .index t x i, ty, po, af, gd⟩ :: l) st = vcCalm G ops (anyNext G own X Y early ops QS l) [⟨dst, .index t x i, ty, po, af, gd⟩] st := a_calmT _ _ rfl rfl
theorem a_fieldAddr (t : TypeId) (x : Operand) (n : Nat) : vcAny G own X Y early ops QS (⟨dst, .fieldAddr t x n, ty, po, af, gd⟩ :: l) st = (dj X (st.ev x) = true ∧ vcCalm G ops (anyNext G own X Y early ops QS l) [⟨dst, .fieldAddr t x n, ty, po, af, gd⟩] st) := a_calm _ _ rfl
theorem a_indexAddr (t : TypeId) (x i : Operand) : vcAny G own X Y early ops QS (⟨dst, .indexAddr t x i, ty, po, af, gd⟩ :: l) st = (dj X (st.ev x) = true ∧ vcCalm G ops (anyNext G own X Y early ops QS l) [⟨dst, .indexAddr t x i, ty, po, af, gd⟩] st) := a_calm _ _ rfl
theorem a_load (d : Tmp) (t : TypeId) (x : Operand) : vcAny G own X Y early ops QS (⟨some d, .load t x, ty, po, af, gd⟩ :: l) st = (dj (X ++ (if early.contains d = true then [] else Y)) (st.ev x) = true ∧ vcCalm G ops (anyNext G own X Y early ops QS l) [⟨some d, .load t x, ty, po, af, gd⟩] st) := a_calm _ _ rfl
theorem a_build (t : TypeId) (ps : Array (Nat × Operand)) : vcAny G own X Y early ops QS (⟨dst, .build t ps, ty, po, af, gd⟩ :: l) st = ((ps.toList.all fun p => (st.ev p.2).cells.all (dj X)) = true ∧ vcCalm G ops (anyNext G own X Y early ops QS l) [⟨dst, .build t ps, ty, po, af, gd⟩] st) := a_calm _ _ rfl
theorem a_box (t : TypeId) (x : Operand) : vcAny G own X Y early ops QS (⟨dst, .box t x, ty, po, af, gd⟩ :: l) st = ((st.ev x).cells.all (dj X) = true ∧ vcCalm G ops (anyNext G own X Y early ops QS l) [⟨dst, .box t x, ty, po, af, gd⟩] st) := a_calm _ _ rfl
theorem a_buildSlice (d : Tmp) (t : TypeId) (n : Nat) (ps : Array (Nat × Operand)) (hd : own.contains d = false) : vcAny G own X Y early ops QS (⟨some d, .buildSlice t n ps, ty, po, af, gd⟩ :: l) st = ((ps.toList.all fun p => (st.ev p.2).cells.all (dj X)) = true ∧ vcCalm G ops (anyNext G own X Y early ops QS l) [⟨some d, .buildSlice t n ps, ty, po, af, gd⟩] st) := a_calm _ _ (by simp only [kindO, hd]; rfl)
theorem a_len (xs : Array Operand) (ts : Array TypeId) : vcAny G own X Y early ops QS (⟨dst, .call { callee := .builtin .len, args := xs, argTypes := ts }, ty, po, af, gd⟩ :: l) st = ((xs.toList.all fun x => dj X (st.ev x)) = true ∧ vcCalm G ops (anyNext G own X Y early ops QS l) [⟨dst, .call { callee := .builtin .len, args := xs, argTypes := ts }, ty, po, af, gd⟩] st) := a_calm _ _ rfl
/-- Is a function's value, with what it holds, without own memory? -/
def plainFn : AV → Bool
  | .fn _ a b => a.all plainAV && b.all plainAV
  | _ => false
theorem a_call (d : Tmp) (f : Operand) (xs : Array Operand) (ts : Array TypeId) (hd : own.contains d = false) : vcAny G own X Y early ops QS (⟨some d, .call { callee := .value f, args := xs, argTypes := ts }, ty, po, af, gd⟩ :: l) st = ((plainFn (st.ev f) && xs.toList.all fun x => plainAV (st.ev x)) = true ∧ vcCalm G ops (anyNext G own X Y early ops QS l) [⟨some d, .call { callee := .value f, args := xs, argTypes := ts }, ty, po, af, gd⟩] st) := by
  rw [a_calm _ _ (by simp only [kindO]; rw [hd]; rfl)]
  have : lateB X (if isEarly early ⟨some d, .call { callee := .value f, args := xs, argTypes := ts }, ty, po, af, gd⟩ = true then [] else Y) st ⟨some d, .call { callee := .value f, args := xs, argTypes := ts }, ty, po, af, gd⟩ = (plainFn (st.ev f) && xs.toList.all fun x => plainAV (st.ev x)) := by
    simp only [lateB, plainFn]
    cases st.ev f <;> rfl
  rw [this]
theorem a_callF (d : Tmp) (f : Operand) (xs : Array Operand) (ts : Array TypeId) (hd : own.contains d = true) : vcAny G own X Y early ops QS (⟨some d, .call { callee := .value f, args := xs, argTypes := ts }, ty, po, af, none⟩ :: l) st = (d < G.n ∧ onFn (st.ev f) fun g first captured => OwnCall G X g (first ++ (xs.toList.map st.ev ++ captured)) d (anyNext G own X Y early ops QS l) st) := by
  rw [vcAny, show kindO own ⟨some d, .call { callee := .value f, args := xs, argTypes := ts }, ty, po, af, none⟩ = 2 by simp only [kindO]; rw [hd]; rfl]; simp only [true_and]; rfl
theorem a_append (d : Tmp) (p q : Operand) (t t' : TypeId) : vcAny G own X Y early ops QS (⟨some d, .call { callee := .builtin .append, args := #[p, q], argTypes := #[t, t'] }, ty, po, af, none⟩ :: l) st = (d < G.n ∧ (t' = t ∧ bindP (tElem G.P t) fun e => bindP (tSize G.P e) fun sz => bindP (tBytes G.P e) fun bytes => ((tZero G.P e).map (·.cells.size) = some sz ∧ 0 < sz) ∧
    onFull (fullOf (st.ev p)) (fun sz' xs => sz' = sz ∧ bindP (srcAV st sz (st.ev q)) fun ys => (okAll st ys ∧ (xs.length + ys.length) * bytes ≤ 140737488355328 ∧ xs.length + ys.length ≤ 140737488355328) ∧ ys ≠ [] ∧ G.ids d ∈ X ∧
      anyNext G own X Y early ops QS l ((st.setArr (G.ids d) e sz (xs ++ ys)).put (some d) (.ref (G.ids d) (st.ver (G.ids d) + 1))))
    (oslOf st (st.ev p) = none ∧ bindP (destAV st (G.ids d) e sz (st.ev p)) fun dx => bindP (srcAV st sz (st.ev q)) fun ys => (okAll st ys ∧ (dx.2.length + ys.length) * bytes ≤ 140737488355328 ∧ dx.2.length + ys.length ≤ 140737488355328) ∧ dx.1 ∈ X ∧
      anyNext G own X Y early ops QS l ((st.setArr dx.1 e sz (dx.2 ++ ys)).put (some d) (.ref dx.1 (st.ver dx.1 + 1)))))) := by
  rw [vcAny, show kindO own ⟨some d, .call { callee := .builtin .append, args := #[p, q], argTypes := #[t, t'] }, ty, po, af, none⟩ = 2 from rfl]; simp only [true_and]; rfl
theorem a_slice (t : TypeId) (x : Operand) (lo hi mx : Option Operand) : vcAny G own X Y early ops QS (⟨dst, .slice t x lo hi mx, ty, po, af, gd⟩ :: l) st = (plain0 (st.ev x) = true ∧ vcCalm G ops (anyNext G own X Y early ops QS l) [⟨dst, .slice t x lo hi mx, ty, po, af, gd⟩] st) := a_calm _ _ rfl
theorem a_buildOwn (d : Tmp) (t : TypeId) (n : Nat) (ps : Array (Nat × Operand)) (hd : own.contains d = true) : vcAny G own X Y early ops QS (⟨some d, .buildSlice t n ps, ty, po, af, none⟩ :: l) st = (d < G.n ∧ bindP (litAV G.P st t n ps) fun x => G.ids d ∈ X ∧
    anyNext G own X Y early ops QS l ((st.setArr (G.ids d) x.1 x.2.1 x.2.2).put (some d) (.ref (G.ids d) (st.ver (G.ids d) + 1)))) := by
  have hm : d ∈ own := by simpa using hd
  rw [vcAny, show kindO own ⟨some d, .buildSlice t n ps, ty, po, af, none⟩ = 2 from by unfold kindO; simp only [hd, if_true]]; simp only [true_and, ownStep, hm]; rfl
theorem a_alloc (d : Tmp) (t : TypeId) : vcAny G own X Y early ops QS (⟨some d, .alloc t, ty, po, af, none⟩ :: l) st = (d < G.n ∧ G.ids d ∈ X ∧ bindP (tZero G.P t) fun z => (valCells z).all zeroOK = true ∧ anyNext G own X Y early ops QS l (allocSt G d z st)) := by
  rw [vcAny, show kindO own ⟨some d, .alloc t, ty, po, af, none⟩ = 1 from rfl]; simp only [true_and]; rfl
theorem a_store (t : TypeId) (p x : Operand) : vcAny G own X Y early ops QS (⟨dst, .store t p x, ty, po, af, none⟩ :: l) st = (dstOK G.n dst ∧ bindP (storeSt G.P st t (st.ev p) (st.ev x)) fun st' => inY X Y (st.ev p) = true ∧ anyNext G own X Y early ops QS l (st'.put dst .junk)) := by
  rw [vcAny, show kindO own ⟨dst, .store t p x, ty, po, af, none⟩ = 2 from rfl]; simp only [true_and]; rfl
end
theorem q_allocSt (d : Nat) (z : Value) : allocSt G d z st = (st.setBox (G.ids d) (valCells z)).put (some d) (.rptr (G.ids d) (st.ver (G.ids d) + 1) 0 0) := nrfl _
theorem q_dj_ref (X : List Nat) (i k : Nat) : dj X (.ref i k) = !(X.contains i) := nrfl _
theorem q_dj_rptr (X : List Nat) (i k n j : Nat) : dj X (.rptr i k n j) = !(X.contains i) := nrfl _
theorem q_dj_v (X : List Nat) (x : Value) : dj X (.v x) = true := nrfl _
theorem q_dj_lst (X : List Nat) (sz : Nat) (xs : List AV) : dj X (.lst sz xs) = true := nrfl _
theorem q_dj_eptr (X : List Nat) (cs : List AV) (j : Nat) : dj X (.eptr cs j) = true := nrfl _
theorem q_zeroOK (x : Value) : zeroOK (.v x) = x.oneCell' := nrfl _
theorem q_inY (X Y : List Nat) (i k n j : Nat) : inY X Y (.rptr i k n j) = (Y.contains i || X.contains i) := nrfl _
theorem q_plainFn (f : Fn) (a b : List AV) : plainFn (.fn f a b) = (a.all plainAV && b.all plainAV) := nrfl _
theorem q_plain_v (x : Value) : plainAV (.v x) = true := nrfl _
theorem q_plain_lst (sz : Nat) (xs : List AV) : plainAV (.lst sz xs) = true := nrfl _
theorem q_plain_eptr (cs : List AV) (j : Nat) : plainAV (.eptr cs j) = true := nrfl _
theorem q_plain_agg (cs : List AV) : plainAV (.agg cs) = cs.all plain0 := nrfl _
theorem q_plain0_v (x : Value) : plain0 (.v x) = true := nrfl _
theorem q_plain0_lst (sz : Nat) (xs : List AV) : plain0 (.lst sz xs) = true := nrfl _
theorem w_skip : vcCode G own .skip Q st = Q .normal st := nrfl _
theorem w_label (l : Nat) : vcCode G own (.label l) Q st = Q .normal st := nrfl _
theorem w_ret : vcCode G own .ret Q st = Q .ret st := nrfl _
theorem w_exit (id : Nat) : vcCode G own (.exit id) Q st = Q (.exit id) st := nrfl _
theorem w_region (id : Nat) : vcCode G own (.region id ops false) Q st = vcOps G own ops (Q .normal) ops.toList st := nrfl _
theorem w_draws (id : Nat) : vcCode G own (.region id ops true) Q st = AWp G (.region id ops true) Q st := nrfl _
theorem w_seq (a b : Code) : vcCode G own (.seq a b) Q st = vcCode G own a (thenA (vcCode G own b Q) Q) st := nrfl _
theorem w_cond (c : Operand) (a b : Code) : vcCode G own (.cond c a b) Q st = onBool (st.ev c) fun t => if t = true then vcCode G own a Q st else vcCode G own b Q st := nrfl _
theorem w_block (id : Nat) (c : Code) : vcCode G own (.block id c) Q st = vcCode G own c (inBlockA id Q) st := nrfl _
theorem w_loop (c : Code) : vcCode G own (.loop c) Q st = AWp G (.loop c) Q st := nrfl _
theorem w_then_normal : thenA K Q .normal st = K st := nrfl _
theorem w_then_ret : thenA K Q .ret st = Q .ret st := nrfl _
theorem w_then_exit (id : Nat) : thenA K Q (.exit id) st = Q (.exit id) st := nrfl _
theorem w_in_normal (id : Nat) : inBlockA id Q .normal st = Q .normal st := nrfl _
theorem w_in_ret (id : Nat) : inBlockA id Q .ret st = Q .ret st := nrfl _
theorem w_in_exit (id id' : Nat) : inBlockA id Q (.exit id') st = if id' = id then Q .normal st else Q (.exit id') st := nrfl _
theorem w_range (g : Operand) (ps : Array Tmp) (x c : Code) : vcCode G own (.rangeFunc g ps x c) Q st = AWp G (.rangeFunc g ps x c) Q st := nrfl _
theorem q_mem_σ (s : St) : (st.mem s).σ = st.σ := nrfl _
theorem q_mem_ver (s : St) : (st.mem s).ver = s.ver := nrfl _
theorem q_mem_h (s : St) : (st.mem s).h = s.h := nrfl _
theorem q_fill0 (σ : Nat → AV) (vs : List AV) : fillSlots σ [] vs = σ := nrfl _
theorem q_fill1 (σ : Nat → AV) (t : Tmp) (v : AV) (j : Nat) : fillSlots σ [t] [v] j = if j = t then v else σ j := nrfl _
theorem q_upd {α : Type} (f : Nat → α) (i : Nat) (x : α) (j : Nat) : upd f i x j = if j = i then x else f j := nrfl _
theorem w_pr_normal (R V : Nat) (r : Loop) (si s : St) : PostRound R V r si dst K .normal s = ((s.ver R = V ∧ s.h R = recB r .busy none) ∧ K ((si.mem (s.setH R (recB r .ready none))).put dst (.v (.bool true)))) := nrfl _
theorem w_pr_ret (R V : Nat) (r : Loop) (si s : St) : PostRound R V r si dst K .ret s = ((s.ver R = V ∧ s.h R = recB r .busy none) ∧ K ((si.mem (s.setH R (recB r .done (some .ret)))).put dst (.v (.bool false)))) := nrfl _
theorem w_pr_exit (R V : Nat) (r : Loop) (si s : St) (id : Nat) : PostRound R V r si dst K (.exit id) s = ((s.ver R = V ∧ s.h R = recB r .busy none) ∧ K ((si.mem (s.setH R (recB r .done (some (.exit id))))).put dst (.v (.bool false)))) := nrfl _
theorem w_pa_normal (l R V : Nat) (r : Loop) (body : Code) (s : St) : PostAssign G l R V r body Q .normal s = ((s.ver R = V ∧ s.h R = recB r .ready none) ∧ ∀ e0, AWp ⟨G.P, G.w0, G.S0, G.n, some l, G.ids, e0⟩ body Q (s.setH R (recB r .busy none))) := nrfl _
theorem w_pi_normal (R V : Nat) (r : Loop) (s : St) : PostIter G st R V r Q .normal s = (s.ver R = V ∧ ((s.h R = recB r .ready none ∧ Q .normal (st.mem (s.setH R .none))) ∨ (∃ c, s.h R = recB r .done (some c) ∧ AWp G c Q (st.mem (s.setH R .none))))) := nrfl _
theorem w_pi_ret (R V : Nat) (r : Loop) (s : St) : PostIter G st R V r Q .ret s = (s.ver R = V ∧ ((s.h R = recB r .ready none ∧ Q .normal (st.mem (s.setH R .none))) ∨ (∃ c, s.h R = recB r .done (some c) ∧ AWp G c Q (st.mem (s.setH R .none))))) := nrfl _
end
end Go.Abs

-- part Ta
namespace Go.Abs
open Go Go.RowKit

theorem bindP_some' {α : Type} (a : α) (K : α → Prop) : bindP (some a) K = K a := bindP_some a K
theorem onBool_v' (b : Bool) (K : Bool → Prop) : onBool (.v (.bool b)) K = K b := onBool_v b K
theorem onFn2_v' (g : FuncId) (first captured : List AV) (K : FuncId → List AV → List AV → Prop) (Y : Nat → Prop) : onFn2 (.fn (.func g) first captured) K Y = K g first captured := onFn2_v g first captured K Y
theorem onFn2_y' (l : Nat) (K : FuncId → List AV → List AV → Prop) (Y : Nat → Prop) : onFn2 (.v (.func (.yield l) #[] #[])) K Y = Y l := onFn2_y l K Y
theorem onFn_v' (g : FuncId) (first captured : List AV) (K : FuncId → List AV → List AV → Prop) : onFn (.fn (.func g) first captured) K = K g first captured := onFn_v g first captured K
attribute [go_sem ↓] bindP_some' onBool_v' onFn_v' onFn2_v' onFn2_y' w_move c_move w_assign c_assign w_pick c_pick w_load c_load w_unOp c_unOp w_convert c_convert w_makeFunc c_makeFunc w_fieldAddr c_fieldAddr w_field c_field w_indexAddr c_indexAddr w_index c_index w_extract c_extract w_lookup c_lookup a_next a_nil a_move a_assign a_pick a_binOp a_unOp a_convert a_extract a_makeFunc a_field a_index a_fieldAddr a_indexAddr a_load a_build a_box a_buildSlice a_len a_call a_callF a_append a_slice a_buildOwn a_alloc a_store w_makeMap w_mapUpdate w_clear w_slice c_slice w_clen w_cmin w_cmax c_clen w_call c_call c_binOp c_box c_build c_buildSlice w_alloc w_box w_build w_buildSlice w_binOp w_make w_store w_append w_mrange w_next w_entry w_ops_nil w_ops_none w_ops_some c_next c_ops_nil c_ops_none c_ops_some w_skip w_label w_ret w_exit w_region w_draws w_seq w_cond w_block w_loop w_then_normal w_then_ret w_then_exit w_in_normal w_in_ret w_in_exit w_range w_pr_normal w_pr_ret w_pr_exit w_pa_normal w_pi_normal w_pi_ret
attribute [go_sem] onOsl_some onOsl_none q_onMapF_v q_onMapF_ref onIterB_v onIter_v q_oslOf_v q_oslOf_ref q_oslOf_lst q_oslOf_osl q_fullOf_osl q_src_osl q_sl_ref q_sl_refF q_cells_osl q_fz_osl q_fz0_osl q_fz0_oslo q_onOslC_osl q_onOslC_ref q_len_osl q_ia_osl q_dj_osl q_onKeyQ_int q_onKeyQ_str q_onKeyQ_two q_onVal q_okT_txt q_okT_two q_lookAV_str q_lookAV_two q_qget_nil q_qM_nil q_take_osl q_nil_osl q_fzB_iter q_setIter_σ q_setIter_ver q_setIter_h List.getLast?_concat
attribute [go_sem] calmV bindP_some bindP_none onBool_v onFn_v onFn2_v onFn2_y onNil_some onNil_none onFull_some onFull_none q_fullOf_full q_fullOf_v q_fullOf_ref q_fullOf_lst q_fz_full q_take_full q_cells_full dstOK argAt
  okCells evParts valCells fillL spliceL compId List.mapM_cons List.mapM_nil Option.pure_def Option.bind_eq_bind List.nodup_nil
attribute [go_sem] q_allocSt q_dj_ref q_dj_rptr q_dj_v q_dj_lst q_dj_eptr q_zeroOK q_inY q_plainFn q_plain_v q_plain_lst q_plain_eptr q_plain_agg q_plain0_v q_plain0_lst q_lookup q_look_mapv q_look_ref q_lookAV q_setMap_σ q_setMap_ver q_setMap_h q_onMapB q_onMap q_onKey q_hint_none q_hint_some q_isIntAV q_one_map q_mget_nil q_intM_nil q_mput_get q_mput_int q_nil_mapv q_onRptr_m q_onRptr_r q_onRptr_v q_onRptr_l q_onRptr_f q_onRptr_e q_int_shr q_ia_eptr q_ia_rptr q_sl_eptr q_conv_lst q_bin_agg q_eqOp_eql q_eqOp_neq q_ek_nil q_ek_int q_ek_str q_ek_bool q_mem_σ q_mem_ver q_mem_h q_fill0 q_fill1 q_upd q_onRef_arr q_onRef_map q_ok_mapv q_fz_mapv q_fz0_mapv q_bo_mapv q_out_mapv q_take_mapv q_cells_mapv q_fzB_map q_fzB_obj q_o1_mapv q_ev_tmp q_ev_const q_ev_global q_ev_func q_put_σ q_put_ver q_put_h q_put_none q_setArr_σ q_setArr_ver q_setArr_h q_setBox_σ q_setBox_ver q_setBox_h q_setH_σ q_setH_ver q_setH_h q_start_σ q_start_ver q_start_h q_freeze_σ q_freeze_ver q_freeze_h q_freezes_nil q_freezes_cons q_ownNil_σ q_ownNil_ver q_ownNil_h q_guard_bool q_guard_undef q_guardSlot q_onArr q_onBlk_arr q_onBlk_box q_cells_v q_cells_agg q_cells_lst q_cells_ref q_cells_rptr q_cells_eptr q_cells_fn q_nil_v q_nil_lst q_nil_agg q_nil_ref q_ok_v q_ok_lst q_ok_eptr q_ok_fn q_ok_rptr q_ok_ref q_one_int q_one_bool q_one_string q_one_slice q_ld_eptr q_ld_rptr q_mk_true q_mk_false q_bin_int q_bin_str q_bin_bool q_int_add q_int_sub q_int_mul q_int_quo q_int_rem q_int_eql q_int_neq q_int_lss q_int_leq q_int_gtr q_int_geq q_str_add q_str_eql q_str_neq q_str_lss q_str_leq q_str_gtr q_str_geq q_bool_eql q_bool_neq q_not q_neg q_conv q_fa_eptr q_fa_rptr q_ia_lst q_ix_str q_len_lst q_len_ref q_len_slice q_len_str q_min q_max q_move q_assign q_pick q_load q_binOp q_unOp q_convert q_makeFunc q_fieldAddr q_field q_indexAddr q_index q_extract q_slice q_len q_cmin q_cmax q_ia_ref q_field_agg q_bound_none q_natOf q_bound q_src_lst q_src_nil q_src_ref q_dest_nil q_dest_ref q_ldAV q_sl_lst q_sl_full q_sl_str q_litAV q_buildAV q_store q_okAll_nil q_okAll_cons q_okAll_append q_okAll_take q_okAll_drop q_out_v q_out_agg q_out_tup q_out_lst q_out_eptr q_out_fn q_out_ref q_res_tmp q_res_cell q_result0 q_o1_v q_o1_agg q_o1_lst q_o1_fn q_o1_ref q_result1 q_result2 q_refs_nil q_refs_v q_refs_agg q_refs_lst q_refs_ref q_take_v q_take_agg q_take_lst q_take_eptr q_take_fn q_take_fresh q_take_tup q_tc_nil q_tc_fresh q_tc_v q_tc_agg q_tc_lst q_bo_v q_bo_agg q_bo_lst q_bo_eptr q_bo_ref q_fz_v q_fz_lst q_fz_eptr q_fz_tup q_fz_junk q_fz_ref q_fz_rptr q_fz_agg q_fz_fn q_fz0_v q_fz0_lst q_fz0_eptr q_fz0_same q_fz0_other q_fz0_rother q_fz0_box q_fzB_none q_fzB_arr q_fzB_box q_nf_v q_nf_agg q_nf_lst

attribute [go_sem] Option.some.injEq exists_eq_left' exists_eq_left if_true if_false true_and and_true List.mem_cons List.not_mem_nil or_false false_or List.map_cons List.map_nil List.nil_append List.cons_append List.append_nil
  List.length_cons List.length_nil List.all_cons List.all_nil Bool.and_true Bool.true_and Option.bind_some Option.map_some Option.bind_none Option.map_none List.drop_zero List.take_succ_cons List.take_zero List.drop_succ_cons
  Nat.add_zero Nat.zero_add reduceCtorEq Bool.false_eq_true false_and and_false ite_self

abbrev Bytes := List UInt8
def S (l : Bytes) : AV := .v (.string ⟨l.toArray⟩)
def I (n : Int) : AV := .v (.int .i64 n)
def B (b : Bool) : AV := .v (.bool b)
def ints (l : List Int) : AV := .lst 1 (l.map I)
def strs (l : List Bytes) : AV := .lst 1 (l.map S)

structure Level where
  user : Bytes
  n : Int
structure KindLevel where
  kind : Int
  n : Int
structure Levels where
  users : List Level
  kinds : List KindLevel
  user : Int
  message : Int
  state : Int
  invite : Int
  kick : Int
  ban : Int
  redact : Int
structure Content where
  text : Bytes
  n : Int
  target : Int
  thread : Bool
  via : Bytes
  allow : List Bytes
  deny : List Bytes
  levels : Levels
structure Sig where
  server : Bytes
  sum : Int
structure Evt where
  id : Int
  room : Bytes
  sender : Bytes
  kind : Int
  state : Bool
  key : Bytes
  time : Int
  depth : Int
  prev : List Int
  auth : List Int
  content : Content
  hash : Int
  sig : Sig

def lvc (x : Level) : List AV := [S x.user, I x.n]
def klc (x : KindLevel) : List AV := [I x.kind, I x.n]
def lvsc (x : Levels) : List AV := [.lst 2 (x.users.map fun u => .agg (lvc u)), .lst 2 (x.kinds.map fun u => .agg (klc u)), I x.user, I x.message, I x.state, I x.invite, I x.kick, I x.ban, I x.redact]
def ctc (x : Content) : List AV := [S x.text, I x.n, I x.target, B x.thread, S x.via, strs x.allow, strs x.deny, .lst 2 (x.levels.users.map fun u => .agg (lvc u)), .lst 2 (x.levels.kinds.map fun u => .agg (klc u)),
  I x.levels.user, I x.levels.message, I x.levels.state, I x.levels.invite, I x.levels.kick, I x.levels.ban, I x.levels.redact]
def evc (x : Evt) : List AV := [I x.id, S x.room, S x.sender, I x.kind, B x.state, S x.key, I x.time, I x.depth, ints x.prev, ints x.auth,
  S x.content.text, I x.content.n, I x.content.target, B x.content.thread, S x.content.via, strs x.content.allow, strs x.content.deny, .lst 2 (x.content.levels.users.map fun u => .agg (lvc u)), .lst 2 (x.content.levels.kinds.map fun u => .agg (klc u)),
  I x.content.levels.user, I x.content.levels.message, I x.content.levels.state, I x.content.levels.invite, I x.content.levels.kick, I x.content.levels.ban, I x.content.levels.redact, I x.hash, S x.sig.server, I x.sig.sum]
def ev (x : Evt) : AV := .agg (evc x)
def evs (l : List Evt) : AV := .lst 29 (l.map ev)

theorem flat_I (n : Int) : Flat (I n) := flat_v _
theorem flat_B (n : Bool) : Flat (B n) := flat_v _
theorem flat_S (n : Bytes) : Flat (S n) := flat_v _
theorem pure_I (n : Int) : Pure (I n) := pure_v _
theorem pure_B (n : Bool) : Pure (B n) := pure_v _
theorem pure_S (n : Bytes) : Pure (S n) := pure_v _
theorem pure_ints (l : List Int) : Pure (ints l) := pure_lst fun x hx c hc => by
  obtain ⟨n, _, rfl⟩ := List.mem_map.1 hx
  simp only [I, AV.cells, List.mem_singleton] at hc; subst hc; exact pure_v _
theorem pure_strs (l : List Bytes) : Pure (strs l) := pure_lst fun x hx c hc => by
  obtain ⟨n, _, rfl⟩ := List.mem_map.1 hx
  simp only [S, AV.cells, List.mem_singleton] at hc; subst hc; exact pure_v _
theorem pure_lvc (x : Level) : ∀ c ∈ lvc x, Pure c := by
  intro c hc; simp only [lvc, List.mem_cons, List.not_mem_nil, or_false] at hc; rcases hc with rfl | rfl <;> exact pure_v _
theorem pure_klc (x : KindLevel) : ∀ c ∈ klc x, Pure c := by
  intro c hc; simp only [klc, List.mem_cons, List.not_mem_nil, or_false] at hc; rcases hc with rfl | rfl <;> exact pure_v _
theorem pure_lst_agg {α : Type} {sz : Nat} {l : List α} {f : α → List AV} (h : ∀ x, ∀ c ∈ f x, Pure c) : Pure (.lst sz (l.map fun u => .agg (f u))) := pure_lst fun x hx c hc => by
  obtain ⟨n, _, rfl⟩ := List.mem_map.1 hx
  exact h n c hc
theorem pure_evc (x : Evt) : ∀ c ∈ evc x, Pure c := by
  intro c hc
  simp only [evc, List.mem_cons, List.not_mem_nil, or_false] at hc
  rcases hc with rfl | rfl | rfl | rfl | rfl | rfl | rfl | rfl | rfl | rfl | rfl | rfl | rfl | rfl | rfl | rfl | rfl | rfl | rfl | rfl | rfl | rfl | rfl | rfl | rfl | rfl | rfl | rfl | rfl <;>
    first | exact pure_v _ | exact pure_ints _ | exact pure_strs _ | exact pure_lst_agg pure_lvc | exact pure_lst_agg pure_klc
theorem pure_ev (x : Evt) : Pure (ev x) := pure_agg (pure_evc x)
theorem pure_evs (l : List Evt) : Pure (evs l) := pure_lst fun x hx c hc => by
  obtain ⟨n, _, rfl⟩ := List.mem_map.1 hx
  exact pure_evc n c hc

theorem okAll_ints (st : St) (l : List Int) : okAll st (l.map I) := fun c hc => by obtain ⟨n, _, rfl⟩ := List.mem_map.1 hc; rfl
theorem okAll_strs (st : St) (l : List Bytes) : okAll st (l.map S) := fun c hc => by obtain ⟨n, _, rfl⟩ := List.mem_map.1 hc; rfl
theorem okAll_evs (st : St) (l : List Evt) : okAll st (l.map ev) := fun c hc => by obtain ⟨n, _, rfl⟩ := List.mem_map.1 hc; rfl
attribute [go_sem] okAll_ints okAll_strs okAll_evs
attribute [go_sem] S I B ints strs ev evs
theorem pureR_v (x : Value) : PureR (.v x) := pure_v x
theorem pureR_B (b : Bool) : PureR (B b) := pure_B b
theorem pureR_I (b : Int) : PureR (I b) := pure_I b
theorem pureR_S (b : Bytes) : PureR (S b) := pure_S b
theorem evc_len (x : Evt) : (evc x).length = 29 := rfl
theorem evc_take (x : Evt) : (evc x).take 29 = evc x := rfl
theorem evc_ok (st : St) (x : Evt) : (evc x).all (okCell st) = true := rfl
theorem evc_0 (x : Evt) : ((evc x).drop 0).take 1 = [I x.id] := rfl
theorem evc_1 (x : Evt) : ((evc x).drop 1).take 1 = [S x.room] := rfl
theorem evc_2 (x : Evt) : ((evc x).drop 2).take 1 = [S x.sender] := rfl
theorem evc_3 (x : Evt) : ((evc x).drop 3).take 1 = [I x.kind] := rfl
theorem evc_4 (x : Evt) : ((evc x).drop 4).take 1 = [B x.state] := rfl
theorem evc_5 (x : Evt) : ((evc x).drop 5).take 1 = [S x.key] := rfl
theorem evc_6 (x : Evt) : ((evc x).drop 6).take 1 = [I x.time] := rfl
theorem evc_7 (x : Evt) : ((evc x).drop 7).take 1 = [I x.depth] := rfl
theorem evc_8 (x : Evt) : ((evc x).drop 8).take 1 = [ints x.prev] := rfl
theorem evc_9 (x : Evt) : ((evc x).drop 9).take 1 = [ints x.auth] := rfl
theorem evc_10 (x : Evt) : ((evc x).drop 10).take 1 = [S x.content.text] := rfl
theorem evc_11 (x : Evt) : ((evc x).drop 11).take 1 = [I x.content.n] := rfl
theorem evc_12 (x : Evt) : ((evc x).drop 12).take 1 = [I x.content.target] := rfl
theorem evc_13 (x : Evt) : ((evc x).drop 13).take 1 = [B x.content.thread] := rfl
theorem evc_14 (x : Evt) : ((evc x).drop 14).take 1 = [S x.content.via] := rfl
theorem evc_15 (x : Evt) : ((evc x).drop 15).take 1 = [strs x.content.allow] := rfl
theorem evc_16 (x : Evt) : ((evc x).drop 16).take 1 = [strs x.content.deny] := rfl
theorem evc_19 (x : Evt) : ((evc x).drop 19).take 1 = [I x.content.levels.user] := rfl
theorem evc_20 (x : Evt) : ((evc x).drop 20).take 1 = [I x.content.levels.message] := rfl
theorem evc_21 (x : Evt) : ((evc x).drop 21).take 1 = [I x.content.levels.state] := rfl
theorem evc_22 (x : Evt) : ((evc x).drop 22).take 1 = [I x.content.levels.invite] := rfl
theorem evc_23 (x : Evt) : ((evc x).drop 23).take 1 = [I x.content.levels.kick] := rfl
theorem evc_24 (x : Evt) : ((evc x).drop 24).take 1 = [I x.content.levels.ban] := rfl
theorem evc_25 (x : Evt) : ((evc x).drop 25).take 1 = [I x.content.levels.redact] := rfl
theorem evc_26 (x : Evt) : ((evc x).drop 26).take 1 = [I x.hash] := rfl
theorem evc_27 (x : Evt) : ((evc x).drop 27).take 1 = [S x.sig.server] := rfl
theorem evc_28 (x : Evt) : ((evc x).drop 28).take 1 = [I x.sig.sum] := rfl
theorem evc_0' (x : Evt) : (evc x).take 1 = [I x.id] := rfl
attribute [go_sem] evc_0' evc_len evc_take evc_ok evc_0 evc_1 evc_2 evc_3 evc_4 evc_5 evc_6 evc_7 evc_8 evc_9 evc_10 evc_11 evc_12 evc_13 evc_14 evc_15 evc_16 evc_19 evc_20 evc_21 evc_22 evc_23 evc_24 evc_25 evc_26 evc_27 evc_28
end Go.Abs

-- part Tt
namespace Go.Proofs.Ytckoolpjphhfdaa
open Go Go.Abs
theorem tSize2 : tSize Try.prog 2 = some 1 := by kernel_rfl
theorem tBytes2 : tBytes Try.prog 2 = some 8 := by kernel_rfl
theorem tAgg2 : tAgg Try.prog 2 = some false := by kernel_rfl
theorem tZero2 : tZero Try.prog 2 = some (Value.int IntKind.i64 0) := by kernel_rfl
theorem tInt2 : tInt Try.prog 2 = some IntKind.i64 := by kernel_rfl
theorem tIs2 : (Try.prog.underlying 2).isSome = true := by kernel_rfl
theorem tSize3 : tSize Try.prog 3 = some 1 := by kernel_rfl
theorem tBytes3 : tBytes Try.prog 3 = some 8 := by kernel_rfl
theorem tAgg3 : tAgg Try.prog 3 = some false := by kernel_rfl
theorem tZero3 : tZero Try.prog 3 = some (Value.int IntKind.i64 0) := by kernel_rfl
theorem tInt3 : tInt Try.prog 3 = some IntKind.i64 := by kernel_rfl
theorem tIs3 : (Try.prog.underlying 3).isSome = true := by kernel_rfl
theorem tSize4 : tSize Try.prog 4 = some 1 := by kernel_rfl
theorem tBytes4 : tBytes Try.prog 4 = some 1 := by kernel_rfl
theorem tAgg4 : tAgg Try.prog 4 = some false := by kernel_rfl
theorem tZero4 : tZero Try.prog 4 = some (Value.bool false) := by kernel_rfl
theorem tIs4 : (Try.prog.underlying 4).isSome = true := by kernel_rfl
theorem tSize5 : tSize Try.prog 5 = some 1 := by kernel_rfl
theorem tBytes5 : tBytes Try.prog 5 = some 1 := by kernel_rfl
theorem tAgg5 : tAgg Try.prog 5 = some false := by kernel_rfl
theorem tZero5 : tZero Try.prog 5 = some (Value.int IntKind.u8 0) := by kernel_rfl
theorem tInt5 : tInt Try.prog 5 = some IntKind.u8 := by kernel_rfl
theorem tIs5 : (Try.prog.underlying 5).isSome = true := by kernel_rfl
theorem tSize6 : tSize Try.prog 6 = some 1 := by kernel_rfl
theorem tBytes6 : tBytes Try.prog 6 = some 1 := by kernel_rfl
theorem tAgg6 : tAgg Try.prog 6 = some false := by kernel_rfl
theorem tZero6 : tZero Try.prog 6 = some (Value.int IntKind.u8 0) := by kernel_rfl
theorem tInt6 : tInt Try.prog 6 = some IntKind.u8 := by kernel_rfl
theorem tIs6 : (Try.prog.underlying 6).isSome = true := by kernel_rfl
theorem tSize7 : tSize Try.prog 7 = some 4 := by kernel_rfl
theorem tBytes7 : tBytes Try.prog 7 = some 24 := by kernel_rfl
theorem tAgg7 : tAgg Try.prog 7 = some true := by kernel_rfl
theorem tZero7 : tZero Try.prog 7 = some (Value.agg #[(Value.int IntKind.i64 0), (Value.int IntKind.i64 0), (Value.bool false), (Value.int IntKind.u8 0)]) := by kernel_rfl
theorem tPlaces7 : tPlaces Try.prog 7 = some [(0, 1), (1, 1), (2, 1), (3, 1)] := by kernel_rfl
theorem tField7_0 : tField Try.prog 7 0 = some (0, 2) := by kernel_rfl
theorem tField7_1 : tField Try.prog 7 1 = some (1, 3) := by kernel_rfl
theorem tField7_2 : tField Try.prog 7 2 = some (2, 4) := by kernel_rfl
theorem tField7_3 : tField Try.prog 7 3 = some (3, 6) := by kernel_rfl
theorem tIs7 : (Try.prog.underlying 7).isSome = true := by kernel_rfl
theorem tSize8 : tSize Try.prog 8 = some 4 := by kernel_rfl
theorem tBytes8 : tBytes Try.prog 8 = some 24 := by kernel_rfl
theorem tAgg8 : tAgg Try.prog 8 = some true := by kernel_rfl
theorem tZero8 : tZero Try.prog 8 = some (Value.agg #[(Value.int IntKind.i64 0), (Value.int IntKind.i64 0), (Value.bool false), (Value.int IntKind.u8 0)]) := by kernel_rfl
theorem tPlaces8 : tPlaces Try.prog 8 = some [(0, 1), (1, 1), (2, 1), (3, 1)] := by kernel_rfl
theorem tField8_0 : tField Try.prog 8 0 = some (0, 2) := by kernel_rfl
theorem tField8_1 : tField Try.prog 8 1 = some (1, 3) := by kernel_rfl
theorem tField8_2 : tField Try.prog 8 2 = some (2, 4) := by kernel_rfl
theorem tField8_3 : tField Try.prog 8 3 = some (3, 6) := by kernel_rfl
theorem tIs8 : (Try.prog.underlying 8).isSome = true := by kernel_rfl
theorem tSize9 : tSize Try.prog 9 = some 1 := by kernel_rfl
theorem tBytes9 : tBytes Try.prog 9 = some 16 := by kernel_rfl
theorem tAgg9 : tAgg Try.prog 9 = some false := by kernel_rfl
theorem tZero9 : tZero Try.prog 9 = some (Value.string ⟨#[]⟩) := by kernel_rfl
theorem tStr9 : tStr Try.prog 9 = true := by kernel_rfl
theorem tIs9 : (Try.prog.underlying 9).isSome = true := by kernel_rfl
theorem tSize10 : tSize Try.prog 10 = some 1 := by kernel_rfl
theorem tBytes10 : tBytes Try.prog 10 = some 16 := by kernel_rfl
theorem tAgg10 : tAgg Try.prog 10 = some false := by kernel_rfl
theorem tZero10 : tZero Try.prog 10 = some (Value.string ⟨#[]⟩) := by kernel_rfl
theorem tStr10 : tStr Try.prog 10 = true := by kernel_rfl
theorem tIs10 : (Try.prog.underlying 10).isSome = true := by kernel_rfl
theorem tSize11 : tSize Try.prog 11 = some 1 := by kernel_rfl
theorem tBytes11 : tBytes Try.prog 11 = some 16 := by kernel_rfl
theorem tAgg11 : tAgg Try.prog 11 = some false := by kernel_rfl
theorem tZero11 : tZero Try.prog 11 = some (Value.string ⟨#[]⟩) := by kernel_rfl
theorem tStr11 : tStr Try.prog 11 = true := by kernel_rfl
theorem tIs11 : (Try.prog.underlying 11).isSome = true := by kernel_rfl
theorem tSize12 : tSize Try.prog 12 = some 1 := by kernel_rfl
theorem tBytes12 : tBytes Try.prog 12 = some 8 := by kernel_rfl
theorem tAgg12 : tAgg Try.prog 12 = some false := by kernel_rfl
theorem tZero12 : tZero Try.prog 12 = some (Value.int IntKind.u64 0) := by kernel_rfl
theorem tInt12 : tInt Try.prog 12 = some IntKind.u64 := by kernel_rfl
theorem tIs12 : (Try.prog.underlying 12).isSome = true := by kernel_rfl
theorem tSize13 : tSize Try.prog 13 = some 2 := by kernel_rfl
theorem tBytes13 : tBytes Try.prog 13 = some 24 := by kernel_rfl
theorem tAgg13 : tAgg Try.prog 13 = some true := by kernel_rfl
theorem tZero13 : tZero Try.prog 13 = some (Value.agg #[(Value.string ⟨#[]⟩), (Value.int IntKind.u64 0)]) := by kernel_rfl
theorem tPlaces13 : tPlaces Try.prog 13 = some [(0, 1), (1, 1)] := by kernel_rfl
theorem tField13_0 : tField Try.prog 13 0 = some (0, 9) := by kernel_rfl
theorem tField13_1 : tField Try.prog 13 1 = some (1, 12) := by kernel_rfl
theorem tIs13 : (Try.prog.underlying 13).isSome = true := by kernel_rfl
theorem tSize14 : tSize Try.prog 14 = some 2 := by kernel_rfl
theorem tBytes14 : tBytes Try.prog 14 = some 24 := by kernel_rfl
theorem tAgg14 : tAgg Try.prog 14 = some true := by kernel_rfl
theorem tZero14 : tZero Try.prog 14 = some (Value.agg #[(Value.string ⟨#[]⟩), (Value.int IntKind.u64 0)]) := by kernel_rfl
theorem tPlaces14 : tPlaces Try.prog 14 = some [(0, 1), (1, 1)] := by kernel_rfl
theorem tField14_0 : tField Try.prog 14 0 = some (0, 9) := by kernel_rfl
theorem tField14_1 : tField Try.prog 14 1 = some (1, 12) := by kernel_rfl
theorem tIs14 : (Try.prog.underlying 14).isSome = true := by kernel_rfl
theorem tSize15 : tSize Try.prog 15 = some 1 := by kernel_rfl
theorem tBytes15 : tBytes Try.prog 15 = some 8 := by kernel_rfl
theorem tAgg15 : tAgg Try.prog 15 = some false := by kernel_rfl
theorem tZero15 : tZero Try.prog 15 = some (Value.pointer none) := by kernel_rfl
theorem tIs15 : (Try.prog.underlying 15).isSome = true := by kernel_rfl
theorem tSize16 : tSize Try.prog 16 = some 1 := by kernel_rfl
theorem tBytes16 : tBytes Try.prog 16 = some 8 := by kernel_rfl
theorem tAgg16 : tAgg Try.prog 16 = some false := by kernel_rfl
theorem tZero16 : tZero Try.prog 16 = some (Value.pointer none) := by kernel_rfl
theorem tIs16 : (Try.prog.underlying 16).isSome = true := by kernel_rfl
theorem tSize17 : tSize Try.prog 17 = some 1 := by kernel_rfl
theorem tBytes17 : tBytes Try.prog 17 = some 8 := by kernel_rfl
theorem tAgg17 : tAgg Try.prog 17 = some false := by kernel_rfl
theorem tZero17 : tZero Try.prog 17 = some (Value.pointer none) := by kernel_rfl
theorem tIs17 : (Try.prog.underlying 17).isSome = true := by kernel_rfl
theorem tSize18 : tSize Try.prog 18 = some 1 := by kernel_rfl
theorem tBytes18 : tBytes Try.prog 18 = some 8 := by kernel_rfl
theorem tAgg18 : tAgg Try.prog 18 = some true := by kernel_rfl
theorem tZero18 : tZero Try.prog 18 = some (Value.agg #[(Value.pointer none)]) := by kernel_rfl
theorem tPlaces18 : tPlaces Try.prog 18 = some [(0, 1)] := by kernel_rfl
theorem tField18_0 : tField Try.prog 18 0 = some (0, 17) := by kernel_rfl
theorem tIs18 : (Try.prog.underlying 18).isSome = true := by kernel_rfl
theorem tSize19 : tSize Try.prog 19 = some 1 := by kernel_rfl
theorem tBytes19 : tBytes Try.prog 19 = some 8 := by kernel_rfl
theorem tAgg19 : tAgg Try.prog 19 = some true := by kernel_rfl
theorem tZero19 : tZero Try.prog 19 = some (Value.agg #[(Value.pointer none)]) := by kernel_rfl
theorem tPlaces19 : tPlaces Try.prog 19 = some [(0, 1)] := by kernel_rfl
theorem tField19_0 : tField Try.prog 19 0 = some (0, 17) := by kernel_rfl
theorem tIs19 : (Try.prog.underlying 19).isSome = true := by kernel_rfl
theorem tSize21 : tSize Try.prog 21 = some 1 := by kernel_rfl
theorem tBytes21 : tBytes Try.prog 21 = some 4 := by kernel_rfl
theorem tAgg21 : tAgg Try.prog 21 = some false := by kernel_rfl
theorem tZero21 : tZero Try.prog 21 = some (Value.int IntKind.i32 0) := by kernel_rfl
theorem tInt21 : tInt Try.prog 21 = some IntKind.i32 := by kernel_rfl
theorem tIs21 : (Try.prog.underlying 21).isSome = true := by kernel_rfl
theorem tSize22 : tSize Try.prog 22 = some 1 := by kernel_rfl
theorem tBytes22 : tBytes Try.prog 22 = some 8 := by kernel_rfl
theorem tAgg22 : tAgg Try.prog 22 = some false := by kernel_rfl
theorem tZero22 : tZero Try.prog 22 = some (Value.int IntKind.i64 0) := by kernel_rfl
theorem tInt22 : tInt Try.prog 22 = some IntKind.i64 := by kernel_rfl
theorem tIs22 : (Try.prog.underlying 22).isSome = true := by kernel_rfl
theorem tSize23 : tSize Try.prog 23 = some 1 := by kernel_rfl
theorem tBytes23 : tBytes Try.prog 23 = some 24 := by kernel_rfl
theorem tAgg23 : tAgg Try.prog 23 = some false := by kernel_rfl
theorem tZero23 : tZero Try.prog 23 = some (Value.slice none 0 0) := by kernel_rfl
theorem tElem23 : tElem Try.prog 23 = some 3 := by kernel_rfl
theorem tIs23 : (Try.prog.underlying 23).isSome = true := by kernel_rfl
theorem tSize24 : tSize Try.prog 24 = some 1 := by kernel_rfl
theorem tBytes24 : tBytes Try.prog 24 = some 24 := by kernel_rfl
theorem tAgg24 : tAgg Try.prog 24 = some false := by kernel_rfl
theorem tZero24 : tZero Try.prog 24 = some (Value.slice none 0 0) := by kernel_rfl
theorem tElem24 : tElem Try.prog 24 = some 9 := by kernel_rfl
theorem tIs24 : (Try.prog.underlying 24).isSome = true := by kernel_rfl
theorem tSize25 : tSize Try.prog 25 = some 1 := by kernel_rfl
theorem tBytes25 : tBytes Try.prog 25 = some 24 := by kernel_rfl
theorem tAgg25 : tAgg Try.prog 25 = some false := by kernel_rfl
theorem tZero25 : tZero Try.prog 25 = some (Value.slice none 0 0) := by kernel_rfl
theorem tElem25 : tElem Try.prog 25 = some 134 := by kernel_rfl
theorem tIs25 : (Try.prog.underlying 25).isSome = true := by kernel_rfl
theorem tSize26 : tSize Try.prog 26 = some 1 := by kernel_rfl
theorem tBytes26 : tBytes Try.prog 26 = some 24 := by kernel_rfl
theorem tAgg26 : tAgg Try.prog 26 = some false := by kernel_rfl
theorem tZero26 : tZero Try.prog 26 = some (Value.slice none 0 0) := by kernel_rfl
theorem tElem26 : tElem Try.prog 26 = some 136 := by kernel_rfl
theorem tIs26 : (Try.prog.underlying 26).isSome = true := by kernel_rfl
theorem tSize27 : tSize Try.prog 27 = some 9 := by kernel_rfl
theorem tBytes27 : tBytes Try.prog 27 = some 104 := by kernel_rfl
theorem tAgg27 : tAgg Try.prog 27 = some true := by kernel_rfl
theorem tZero27 : tZero Try.prog 27 = some (Value.agg #[(Value.slice none 0 0), (Value.slice none 0 0), (Value.int IntKind.i64 0), (Value.int IntKind.i64 0), (Value.int IntKind.i64 0), (Value.int IntKind.i64 0), (Value.int IntKind.i64 0), (Value.int IntKind.i64 0), (Value.int IntKind.i64 0)]) := by kernel_rfl
theorem tPlaces27 : tPlaces Try.prog 27 = some [(0, 1), (1, 1), (2, 1), (3, 1), (4, 1), (5, 1), (6, 1), (7, 1), (8, 1)] := by kernel_rfl
theorem tField27_0 : tField Try.prog 27 0 = some (0, 25) := by kernel_rfl
theorem tField27_1 : tField Try.prog 27 1 = some (1, 26) := by kernel_rfl
theorem tField27_2 : tField Try.prog 27 2 = some (2, 3) := by kernel_rfl
theorem tField27_3 : tField Try.prog 27 3 = some (3, 3) := by kernel_rfl
theorem tField27_4 : tField Try.prog 27 4 = some (4, 3) := by kernel_rfl
theorem tField27_5 : tField Try.prog 27 5 = some (5, 3) := by kernel_rfl
theorem tField27_6 : tField Try.prog 27 6 = some (6, 3) := by kernel_rfl
theorem tField27_7 : tField Try.prog 27 7 = some (7, 3) := by kernel_rfl
theorem tField27_8 : tField Try.prog 27 8 = some (8, 3) := by kernel_rfl
theorem tIs27 : (Try.prog.underlying 27).isSome = true := by kernel_rfl
theorem tSize28 : tSize Try.prog 28 = some 9 := by kernel_rfl
theorem tBytes28 : tBytes Try.prog 28 = some 104 := by kernel_rfl
theorem tAgg28 : tAgg Try.prog 28 = some true := by kernel_rfl
theorem tZero28 : tZero Try.prog 28 = some (Value.agg #[(Value.slice none 0 0), (Value.slice none 0 0), (Value.int IntKind.i64 0), (Value.int IntKind.i64 0), (Value.int IntKind.i64 0), (Value.int IntKind.i64 0), (Value.int IntKind.i64 0), (Value.int IntKind.i64 0), (Value.int IntKind.i64 0)]) := by kernel_rfl
theorem tPlaces28 : tPlaces Try.prog 28 = some [(0, 1), (1, 1), (2, 1), (3, 1), (4, 1), (5, 1), (6, 1), (7, 1), (8, 1)] := by kernel_rfl
theorem tField28_0 : tField Try.prog 28 0 = some (0, 25) := by kernel_rfl
theorem tField28_1 : tField Try.prog 28 1 = some (1, 26) := by kernel_rfl
theorem tField28_2 : tField Try.prog 28 2 = some (2, 3) := by kernel_rfl
theorem tField28_3 : tField Try.prog 28 3 = some (3, 3) := by kernel_rfl
theorem tField28_4 : tField Try.prog 28 4 = some (4, 3) := by kernel_rfl
theorem tField28_5 : tField Try.prog 28 5 = some (5, 3) := by kernel_rfl
theorem tField28_6 : tField Try.prog 28 6 = some (6, 3) := by kernel_rfl
theorem tField28_7 : tField Try.prog 28 7 = some (7, 3) := by kernel_rfl
theorem tField28_8 : tField Try.prog 28 8 = some (8, 3) := by kernel_rfl
theorem tIs28 : (Try.prog.underlying 28).isSome = true := by kernel_rfl
theorem tSize29 : tSize Try.prog 29 = some 16 := by kernel_rfl
theorem tBytes29 : tBytes Try.prog 29 = some 208 := by kernel_rfl
theorem tAgg29 : tAgg Try.prog 29 = some true := by kernel_rfl
theorem tZero29 : tZero Try.prog 29 = some (Value.agg #[(Value.string ⟨#[]⟩), (Value.int IntKind.i64 0), (Value.int IntKind.i64 0), (Value.bool false), (Value.string ⟨#[]⟩), (Value.slice none 0 0), (Value.slice none 0 0), (Value.slice none 0 0), (Value.slice none 0 0), (Value.int IntKind.i64 0), (Value.int IntKind.i64 0), (Value.int IntKind.i64 0), (Value.int IntKind.i64 0), (Value.int IntKind.i64 0), (Value.int IntKind.i64 0), (Value.int IntKind.i64 0)]) := by kernel_rfl
theorem tPlaces29 : tPlaces Try.prog 29 = some [(0, 1), (1, 1), (2, 1), (3, 1), (4, 1), (5, 1), (6, 1), (7, 9)] := by kernel_rfl
theorem tField29_0 : tField Try.prog 29 0 = some (0, 9) := by kernel_rfl
theorem tField29_1 : tField Try.prog 29 1 = some (1, 3) := by kernel_rfl
theorem tField29_2 : tField Try.prog 29 2 = some (2, 3) := by kernel_rfl
theorem tField29_3 : tField Try.prog 29 3 = some (3, 4) := by kernel_rfl
theorem tField29_4 : tField Try.prog 29 4 = some (4, 9) := by kernel_rfl
theorem tField29_5 : tField Try.prog 29 5 = some (5, 24) := by kernel_rfl
theorem tField29_6 : tField Try.prog 29 6 = some (6, 24) := by kernel_rfl
theorem tField29_7 : tField Try.prog 29 7 = some (7, 28) := by kernel_rfl
theorem tIs29 : (Try.prog.underlying 29).isSome = true := by kernel_rfl
theorem tSize30 : tSize Try.prog 30 = some 16 := by kernel_rfl
theorem tBytes30 : tBytes Try.prog 30 = some 208 := by kernel_rfl
theorem tAgg30 : tAgg Try.prog 30 = some true := by kernel_rfl
theorem tZero30 : tZero Try.prog 30 = some (Value.agg #[(Value.string ⟨#[]⟩), (Value.int IntKind.i64 0), (Value.int IntKind.i64 0), (Value.bool false), (Value.string ⟨#[]⟩), (Value.slice none 0 0), (Value.slice none 0 0), (Value.slice none 0 0), (Value.slice none 0 0), (Value.int IntKind.i64 0), (Value.int IntKind.i64 0), (Value.int IntKind.i64 0), (Value.int IntKind.i64 0), (Value.int IntKind.i64 0), (Value.int IntKind.i64 0), (Value.int IntKind.i64 0)]) := by kernel_rfl
theorem tPlaces30 : tPlaces Try.prog 30 = some [(0, 1), (1, 1), (2, 1), (3, 1), (4, 1), (5, 1), (6, 1), (7, 9)] := by kernel_rfl
theorem tField30_0 : tField Try.prog 30 0 = some (0, 9) := by kernel_rfl
theorem tField30_1 : tField Try.prog 30 1 = some (1, 3) := by kernel_rfl
theorem tField30_2 : tField Try.prog 30 2 = some (2, 3) := by kernel_rfl
theorem tField30_3 : tField Try.prog 30 3 = some (3, 4) := by kernel_rfl
theorem tField30_4 : tField Try.prog 30 4 = some (4, 9) := by kernel_rfl
theorem tField30_5 : tField Try.prog 30 5 = some (5, 24) := by kernel_rfl
theorem tField30_6 : tField Try.prog 30 6 = some (6, 24) := by kernel_rfl
theorem tField30_7 : tField Try.prog 30 7 = some (7, 28) := by kernel_rfl
theorem tIs30 : (Try.prog.underlying 30).isSome = true := by kernel_rfl
theorem tSize31 : tSize Try.prog 31 = some 2 := by kernel_rfl
theorem tBytes31 : tBytes Try.prog 31 = some 24 := by kernel_rfl
theorem tAgg31 : tAgg Try.prog 31 = some true := by kernel_rfl
theorem tZero31 : tZero Try.prog 31 = some (Value.agg #[(Value.string ⟨#[]⟩), (Value.int IntKind.i64 0)]) := by kernel_rfl
theorem tPlaces31 : tPlaces Try.prog 31 = some [(0, 1), (1, 1)] := by kernel_rfl
theorem tField31_0 : tField Try.prog 31 0 = some (0, 9) := by kernel_rfl
theorem tField31_1 : tField Try.prog 31 1 = some (1, 3) := by kernel_rfl
theorem tIs31 : (Try.prog.underlying 31).isSome = true := by kernel_rfl
theorem tSize32 : tSize Try.prog 32 = some 2 := by kernel_rfl
theorem tBytes32 : tBytes Try.prog 32 = some 24 := by kernel_rfl
theorem tAgg32 : tAgg Try.prog 32 = some true := by kernel_rfl
theorem tZero32 : tZero Try.prog 32 = some (Value.agg #[(Value.string ⟨#[]⟩), (Value.int IntKind.i64 0)]) := by kernel_rfl
theorem tPlaces32 : tPlaces Try.prog 32 = some [(0, 1), (1, 1)] := by kernel_rfl
theorem tFlat32 : tFlat Try.prog 32 = some [1, 0] := by kernel_rfl
theorem tField32_0 : tField Try.prog 32 0 = some (0, 9) := by kernel_rfl
theorem tField32_1 : tField Try.prog 32 1 = some (1, 3) := by kernel_rfl
theorem tIs32 : (Try.prog.underlying 32).isSome = true := by kernel_rfl
theorem tSize33 : tSize Try.prog 33 = some 29 := by kernel_rfl
theorem tBytes33 : tBytes Try.prog 33 = some 376 := by kernel_rfl
theorem tAgg33 : tAgg Try.prog 33 = some true := by kernel_rfl
theorem tZero33 : tZero Try.prog 33 = some (Value.agg #[(Value.int IntKind.i64 0), (Value.string ⟨#[]⟩), (Value.string ⟨#[]⟩), (Value.int IntKind.i64 0), (Value.bool false), (Value.string ⟨#[]⟩), (Value.int IntKind.i64 0), (Value.int IntKind.i64 0), (Value.slice none 0 0), (Value.slice none 0 0), (Value.string ⟨#[]⟩), (Value.int IntKind.i64 0), (Value.int IntKind.i64 0), (Value.bool false), (Value.string ⟨#[]⟩), (Value.slice none 0 0), (Value.slice none 0 0), (Value.slice none 0 0), (Value.slice none 0 0), (Value.int IntKind.i64 0), (Value.int IntKind.i64 0), (Value.int IntKind.i64 0), (Value.int IntKind.i64 0), (Value.int IntKind.i64 0), (Value.int IntKind.i64 0), (Value.int IntKind.i64 0), (Value.int IntKind.i64 0), (Value.string ⟨#[]⟩), (Value.int IntKind.i64 0)]) := by kernel_rfl
theorem tPlaces33 : tPlaces Try.prog 33 = some [(0, 1), (1, 1), (2, 1), (3, 1), (4, 1), (5, 1), (6, 1), (7, 1), (8, 1), (9, 1), (10, 16), (26, 1), (27, 2)] := by kernel_rfl
theorem tField33_0 : tField Try.prog 33 0 = some (0, 3) := by kernel_rfl
theorem tField33_1 : tField Try.prog 33 1 = some (1, 9) := by kernel_rfl
theorem tField33_2 : tField Try.prog 33 2 = some (2, 9) := by kernel_rfl
theorem tField33_3 : tField Try.prog 33 3 = some (3, 22) := by kernel_rfl
theorem tField33_4 : tField Try.prog 33 4 = some (4, 4) := by kernel_rfl
theorem tField33_5 : tField Try.prog 33 5 = some (5, 9) := by kernel_rfl
theorem tField33_6 : tField Try.prog 33 6 = some (6, 3) := by kernel_rfl
theorem tField33_7 : tField Try.prog 33 7 = some (7, 3) := by kernel_rfl
theorem tField33_8 : tField Try.prog 33 8 = some (8, 23) := by kernel_rfl
theorem tField33_9 : tField Try.prog 33 9 = some (9, 23) := by kernel_rfl
theorem tField33_10 : tField Try.prog 33 10 = some (10, 30) := by kernel_rfl
theorem tField33_11 : tField Try.prog 33 11 = some (26, 3) := by kernel_rfl
theorem tField33_12 : tField Try.prog 33 12 = some (27, 32) := by kernel_rfl
theorem tIs33 : (Try.prog.underlying 33).isSome = true := by kernel_rfl
theorem tSize34 : tSize Try.prog 34 = some 29 := by kernel_rfl
theorem tBytes34 : tBytes Try.prog 34 = some 376 := by kernel_rfl
theorem tAgg34 : tAgg Try.prog 34 = some true := by kernel_rfl
theorem tZero34 : tZero Try.prog 34 = some (Value.agg #[(Value.int IntKind.i64 0), (Value.string ⟨#[]⟩), (Value.string ⟨#[]⟩), (Value.int IntKind.i64 0), (Value.bool false), (Value.string ⟨#[]⟩), (Value.int IntKind.i64 0), (Value.int IntKind.i64 0), (Value.slice none 0 0), (Value.slice none 0 0), (Value.string ⟨#[]⟩), (Value.int IntKind.i64 0), (Value.int IntKind.i64 0), (Value.bool false), (Value.string ⟨#[]⟩), (Value.slice none 0 0), (Value.slice none 0 0), (Value.slice none 0 0), (Value.slice none 0 0), (Value.int IntKind.i64 0), (Value.int IntKind.i64 0), (Value.int IntKind.i64 0), (Value.int IntKind.i64 0), (Value.int IntKind.i64 0), (Value.int IntKind.i64 0), (Value.int IntKind.i64 0), (Value.int IntKind.i64 0), (Value.string ⟨#[]⟩), (Value.int IntKind.i64 0)]) := by kernel_rfl
theorem tPlaces34 : tPlaces Try.prog 34 = some [(0, 1), (1, 1), (2, 1), (3, 1), (4, 1), (5, 1), (6, 1), (7, 1), (8, 1), (9, 1), (10, 16), (26, 1), (27, 2)] := by kernel_rfl
theorem tField34_0 : tField Try.prog 34 0 = some (0, 3) := by kernel_rfl
theorem tField34_1 : tField Try.prog 34 1 = some (1, 9) := by kernel_rfl
theorem tField34_2 : tField Try.prog 34 2 = some (2, 9) := by kernel_rfl
theorem tField34_3 : tField Try.prog 34 3 = some (3, 22) := by kernel_rfl
theorem tField34_4 : tField Try.prog 34 4 = some (4, 4) := by kernel_rfl
theorem tField34_5 : tField Try.prog 34 5 = some (5, 9) := by kernel_rfl
theorem tField34_6 : tField Try.prog 34 6 = some (6, 3) := by kernel_rfl
theorem tField34_7 : tField Try.prog 34 7 = some (7, 3) := by kernel_rfl
theorem tField34_8 : tField Try.prog 34 8 = some (8, 23) := by kernel_rfl
theorem tField34_9 : tField Try.prog 34 9 = some (9, 23) := by kernel_rfl
theorem tField34_10 : tField Try.prog 34 10 = some (10, 30) := by kernel_rfl
theorem tField34_11 : tField Try.prog 34 11 = some (26, 3) := by kernel_rfl
theorem tField34_12 : tField Try.prog 34 12 = some (27, 32) := by kernel_rfl
theorem tIs34 : (Try.prog.underlying 34).isSome = true := by kernel_rfl
theorem tSize35 : tSize Try.prog 35 = some 1 := by kernel_rfl
theorem tBytes35 : tBytes Try.prog 35 = some 8 := by kernel_rfl
theorem tAgg35 : tAgg Try.prog 35 = some false := by kernel_rfl
theorem tZero35 : tZero Try.prog 35 = some (Value.int IntKind.i64 0) := by kernel_rfl
theorem tInt35 : tInt Try.prog 35 = some IntKind.i64 := by kernel_rfl
theorem tIs35 : (Try.prog.underlying 35).isSome = true := by kernel_rfl
theorem tSize40 : tSize Try.prog 40 = some 1 := by kernel_rfl
theorem tBytes40 : tBytes Try.prog 40 = some 24 := by kernel_rfl
theorem tAgg40 : tAgg Try.prog 40 = some false := by kernel_rfl
theorem tZero40 : tZero Try.prog 40 = some (Value.slice none 0 0) := by kernel_rfl
theorem tElem40 : tElem Try.prog 40 = some 34 := by kernel_rfl
theorem tIs40 : (Try.prog.underlying 40).isSome = true := by kernel_rfl
theorem tSize43 : tSize Try.prog 43 = some 1 := by kernel_rfl
theorem tBytes43 : tBytes Try.prog 43 = some 24 := by kernel_rfl
theorem tAgg43 : tAgg Try.prog 43 = some false := by kernel_rfl
theorem tZero43 : tZero Try.prog 43 = some (Value.slice none 0 0) := by kernel_rfl
theorem tElem43 : tElem Try.prog 43 = some 58 := by kernel_rfl
theorem tIs43 : (Try.prog.underlying 43).isSome = true := by kernel_rfl
theorem tSize44 : tSize Try.prog 44 = some 4 := by kernel_rfl
theorem tBytes44 : tBytes Try.prog 44 = some 48 := by kernel_rfl
theorem tAgg44 : tAgg Try.prog 44 = some true := by kernel_rfl
theorem tZero44 : tZero Try.prog 44 = some (Value.agg #[(Value.int IntKind.i64 0), (Value.slice none 0 0), (Value.int IntKind.i64 0), (Value.int IntKind.i64 0)]) := by kernel_rfl
theorem tPlaces44 : tPlaces Try.prog 44 = some [(0, 1), (1, 1), (2, 1), (3, 1)] := by kernel_rfl
theorem tField44_0 : tField Try.prog 44 0 = some (0, 3) := by kernel_rfl
theorem tField44_1 : tField Try.prog 44 1 = some (1, 43) := by kernel_rfl
theorem tField44_2 : tField Try.prog 44 2 = some (2, 3) := by kernel_rfl
theorem tField44_3 : tField Try.prog 44 3 = some (3, 3) := by kernel_rfl
theorem tIs44 : (Try.prog.underlying 44).isSome = true := by kernel_rfl
theorem tSize45 : tSize Try.prog 45 = some 4 := by kernel_rfl
theorem tBytes45 : tBytes Try.prog 45 = some 48 := by kernel_rfl
theorem tAgg45 : tAgg Try.prog 45 = some true := by kernel_rfl
theorem tZero45 : tZero Try.prog 45 = some (Value.agg #[(Value.int IntKind.i64 0), (Value.slice none 0 0), (Value.int IntKind.i64 0), (Value.int IntKind.i64 0)]) := by kernel_rfl
theorem tPlaces45 : tPlaces Try.prog 45 = some [(0, 1), (1, 1), (2, 1), (3, 1)] := by kernel_rfl
theorem tField45_0 : tField Try.prog 45 0 = some (0, 3) := by kernel_rfl
theorem tField45_1 : tField Try.prog 45 1 = some (1, 43) := by kernel_rfl
theorem tField45_2 : tField Try.prog 45 2 = some (2, 3) := by kernel_rfl
theorem tField45_3 : tField Try.prog 45 3 = some (3, 3) := by kernel_rfl
theorem tIs45 : (Try.prog.underlying 45).isSome = true := by kernel_rfl
theorem tSize48 : tSize Try.prog 48 = some 1 := by kernel_rfl
theorem tBytes48 : tBytes Try.prog 48 = some 8 := by kernel_rfl
theorem tAgg48 : tAgg Try.prog 48 = some false := by kernel_rfl
theorem tZero48 : tZero Try.prog 48 = some (Value.int IntKind.i64 0) := by kernel_rfl
theorem tInt48 : tInt Try.prog 48 = some IntKind.i64 := by kernel_rfl
theorem tIs48 : (Try.prog.underlying 48).isSome = true := by kernel_rfl
theorem tSize57 : tSize Try.prog 57 = some 2 := by kernel_rfl
theorem tBytes57 : tBytes Try.prog 57 = some 24 := by kernel_rfl
theorem tAgg57 : tAgg Try.prog 57 = some true := by kernel_rfl
theorem tZero57 : tZero Try.prog 57 = some (Value.agg #[(Value.string ⟨#[]⟩), (Value.int IntKind.i64 0)]) := by kernel_rfl
theorem tPlaces57 : tPlaces Try.prog 57 = some [(0, 1), (1, 1)] := by kernel_rfl
theorem tField57_0 : tField Try.prog 57 0 = some (0, 9) := by kernel_rfl
theorem tField57_1 : tField Try.prog 57 1 = some (1, 3) := by kernel_rfl
theorem tIs57 : (Try.prog.underlying 57).isSome = true := by kernel_rfl
theorem tSize58 : tSize Try.prog 58 = some 2 := by kernel_rfl
theorem tBytes58 : tBytes Try.prog 58 = some 24 := by kernel_rfl
theorem tAgg58 : tAgg Try.prog 58 = some true := by kernel_rfl
theorem tZero58 : tZero Try.prog 58 = some (Value.agg #[(Value.string ⟨#[]⟩), (Value.int IntKind.i64 0)]) := by kernel_rfl
theorem tPlaces58 : tPlaces Try.prog 58 = some [(0, 1), (1, 1)] := by kernel_rfl
theorem tFlat58 : tFlat Try.prog 58 = some [1, 0] := by kernel_rfl
theorem tField58_0 : tField Try.prog 58 0 = some (0, 9) := by kernel_rfl
theorem tField58_1 : tField Try.prog 58 1 = some (1, 3) := by kernel_rfl
theorem tIs58 : (Try.prog.underlying 58).isSome = true := by kernel_rfl
theorem tSize59 : tSize Try.prog 59 = some 2 := by kernel_rfl
theorem tBytes59 : tBytes Try.prog 59 = some 16 := by kernel_rfl
theorem tAgg59 : tAgg Try.prog 59 = some true := by kernel_rfl
theorem tZero59 : tZero Try.prog 59 = some (Value.agg #[(Value.int IntKind.i64 0), (Value.int IntKind.i64 0)]) := by kernel_rfl
theorem tPlaces59 : tPlaces Try.prog 59 = some [(0, 1), (1, 1)] := by kernel_rfl
theorem tField59_0 : tField Try.prog 59 0 = some (0, 35) := by kernel_rfl
theorem tField59_1 : tField Try.prog 59 1 = some (1, 3) := by kernel_rfl
theorem tIs59 : (Try.prog.underlying 59).isSome = true := by kernel_rfl
theorem tSize60 : tSize Try.prog 60 = some 2 := by kernel_rfl
theorem tBytes60 : tBytes Try.prog 60 = some 16 := by kernel_rfl
theorem tAgg60 : tAgg Try.prog 60 = some true := by kernel_rfl
theorem tZero60 : tZero Try.prog 60 = some (Value.agg #[(Value.int IntKind.i64 0), (Value.int IntKind.i64 0)]) := by kernel_rfl
theorem tPlaces60 : tPlaces Try.prog 60 = some [(0, 1), (1, 1)] := by kernel_rfl
theorem tFlat60 : tFlat Try.prog 60 = some [0, 0] := by kernel_rfl
theorem tField60_0 : tField Try.prog 60 0 = some (0, 35) := by kernel_rfl
theorem tField60_1 : tField Try.prog 60 1 = some (1, 3) := by kernel_rfl
theorem tIs60 : (Try.prog.underlying 60).isSome = true := by kernel_rfl
theorem tSize72 : tSize Try.prog 72 = some 1 := by kernel_rfl
theorem tBytes72 : tBytes Try.prog 72 = some 8 := by kernel_rfl
theorem tAgg72 : tAgg Try.prog 72 = some false := by kernel_rfl
theorem tZero72 : tZero Try.prog 72 = some (Value.map none) := by kernel_rfl
theorem tMap72 : tMap Try.prog 72 = some (3, 4) := by kernel_rfl
theorem tIs72 : (Try.prog.underlying 72).isSome = true := by kernel_rfl
theorem tSize74 : tSize Try.prog 74 = some 1 := by kernel_rfl
theorem tBytes74 : tBytes Try.prog 74 = some 8 := by kernel_rfl
theorem tAgg74 : tAgg Try.prog 74 = some false := by kernel_rfl
theorem tZero74 : tZero Try.prog 74 = some (Value.map none) := by kernel_rfl
theorem tMap74 : tMap Try.prog 74 = some (77, 4) := by kernel_rfl
theorem tIs74 : (Try.prog.underlying 74).isSome = true := by kernel_rfl
theorem tSize75 : tSize Try.prog 75 = some 1 := by kernel_rfl
theorem tBytes75 : tBytes Try.prog 75 = some 8 := by kernel_rfl
theorem tAgg75 : tAgg Try.prog 75 = some false := by kernel_rfl
theorem tZero75 : tZero Try.prog 75 = some (Value.map none) := by kernel_rfl
theorem tMap75 : tMap Try.prog 75 = some (9, 3) := by kernel_rfl
theorem tIs75 : (Try.prog.underlying 75).isSome = true := by kernel_rfl
theorem tSize76 : tSize Try.prog 76 = some 2 := by kernel_rfl
theorem tBytes76 : tBytes Try.prog 76 = some 32 := by kernel_rfl
theorem tAgg76 : tAgg Try.prog 76 = some true := by kernel_rfl
theorem tZero76 : tZero Try.prog 76 = some (Value.agg #[(Value.string ⟨#[]⟩), (Value.string ⟨#[]⟩)]) := by kernel_rfl
theorem tPlaces76 : tPlaces Try.prog 76 = some [(0, 1), (1, 1)] := by kernel_rfl
theorem tField76_0 : tField Try.prog 76 0 = some (0, 9) := by kernel_rfl
theorem tField76_1 : tField Try.prog 76 1 = some (1, 9) := by kernel_rfl
theorem tIs76 : (Try.prog.underlying 76).isSome = true := by kernel_rfl
theorem tSize77 : tSize Try.prog 77 = some 2 := by kernel_rfl
theorem tBytes77 : tBytes Try.prog 77 = some 32 := by kernel_rfl
theorem tAgg77 : tAgg Try.prog 77 = some true := by kernel_rfl
theorem tZero77 : tZero Try.prog 77 = some (Value.agg #[(Value.string ⟨#[]⟩), (Value.string ⟨#[]⟩)]) := by kernel_rfl
theorem tPlaces77 : tPlaces Try.prog 77 = some [(0, 1), (1, 1)] := by kernel_rfl
theorem tFlat77 : tFlat Try.prog 77 = some [1, 1] := by kernel_rfl
theorem tField77_0 : tField Try.prog 77 0 = some (0, 9) := by kernel_rfl
theorem tField77_1 : tField Try.prog 77 1 = some (1, 9) := by kernel_rfl
theorem tIs77 : (Try.prog.underlying 77).isSome = true := by kernel_rfl
theorem tSize85 : tSize Try.prog 85 = some 1 := by kernel_rfl
theorem tBytes85 : tBytes Try.prog 85 = some 8 := by kernel_rfl
theorem tAgg85 : tAgg Try.prog 85 = some false := by kernel_rfl
theorem tZero85 : tZero Try.prog 85 = some (Value.int IntKind.u64 0) := by kernel_rfl
theorem tInt85 : tInt Try.prog 85 = some IntKind.u64 := by kernel_rfl
theorem tIs85 : (Try.prog.underlying 85).isSome = true := by kernel_rfl
theorem tSize88 : tSize Try.prog 88 = some 1 := by kernel_rfl
theorem tBytes88 : tBytes Try.prog 88 = some 8 := by kernel_rfl
theorem tAgg88 : tAgg Try.prog 88 = some false := by kernel_rfl
theorem tZero88 : tZero Try.prog 88 = some (Value.int IntKind.i64 0) := by kernel_rfl
theorem tInt88 : tInt Try.prog 88 = some IntKind.i64 := by kernel_rfl
theorem tIs88 : (Try.prog.underlying 88).isSome = true := by kernel_rfl
theorem tSize96 : tSize Try.prog 96 = some 1 := by kernel_rfl
theorem tBytes96 : tBytes Try.prog 96 = some 4 := by kernel_rfl
theorem tAgg96 : tAgg Try.prog 96 = some false := by kernel_rfl
theorem tZero96 : tZero Try.prog 96 = some (Value.int IntKind.u32 0) := by kernel_rfl
theorem tInt96 : tInt Try.prog 96 = some IntKind.u32 := by kernel_rfl
theorem tIs96 : (Try.prog.underlying 96).isSome = true := by kernel_rfl
theorem tSize98 : tSize Try.prog 98 = some 1 := by kernel_rfl
theorem tBytes98 : tBytes Try.prog 98 = some 8 := by kernel_rfl
theorem tAgg98 : tAgg Try.prog 98 = some false := by kernel_rfl
theorem tZero98 : tZero Try.prog 98 = some (Value.int IntKind.u64 0) := by kernel_rfl
theorem tInt98 : tInt Try.prog 98 = some IntKind.u64 := by kernel_rfl
theorem tIs98 : (Try.prog.underlying 98).isSome = true := by kernel_rfl
theorem tSize105 : tSize Try.prog 105 = some 1 := by kernel_rfl
theorem tBytes105 : tBytes Try.prog 105 = some 8 := by kernel_rfl
theorem tAgg105 : tAgg Try.prog 105 = some false := by kernel_rfl
theorem tZero105 : tZero Try.prog 105 = some (Value.int IntKind.u64 0) := by kernel_rfl
theorem tInt105 : tInt Try.prog 105 = some IntKind.u64 := by kernel_rfl
theorem tIs105 : (Try.prog.underlying 105).isSome = true := by kernel_rfl
theorem tSize109 : tSize Try.prog 109 = some 1 := by kernel_rfl
theorem tBytes109 : tBytes Try.prog 109 = some 8 := by kernel_rfl
theorem tAgg109 : tAgg Try.prog 109 = some false := by kernel_rfl
theorem tZero109 : tZero Try.prog 109 = some (Value.pointer none) := by kernel_rfl
theorem tIs109 : (Try.prog.underlying 109).isSome = true := by kernel_rfl
theorem tSize114 : tSize Try.prog 114 = some 1 := by kernel_rfl
theorem tBytes114 : tBytes Try.prog 114 = some 8 := by kernel_rfl
theorem tAgg114 : tAgg Try.prog 114 = some false := by kernel_rfl
theorem tZero114 : tZero Try.prog 114 = some (Value.pointer none) := by kernel_rfl
theorem tIs114 : (Try.prog.underlying 114).isSome = true := by kernel_rfl
theorem tSize119 : tSize Try.prog 119 = some 4 := by kernel_rfl
theorem tBytes119 : tBytes Try.prog 119 = some 40 := by kernel_rfl
theorem tAgg119 : tAgg Try.prog 119 = some true := by kernel_rfl
theorem tZero119 : tZero Try.prog 119 = some (Value.agg #[(Value.pointer none), (Value.pointer none), (Value.pointer none), (Value.string ⟨#[]⟩)]) := by kernel_rfl
theorem tPlaces119 : tPlaces Try.prog 119 = some [(0, 1), (1, 1), (2, 1), (3, 1)] := by kernel_rfl
theorem tField119_0 : tField Try.prog 119 0 = some (0, 17) := by kernel_rfl
theorem tField119_1 : tField Try.prog 119 1 = some (1, 17) := by kernel_rfl
theorem tField119_2 : tField Try.prog 119 2 = some (2, 17) := by kernel_rfl
theorem tField119_3 : tField Try.prog 119 3 = some (3, 9) := by kernel_rfl
theorem tIs119 : (Try.prog.underlying 119).isSome = true := by kernel_rfl
theorem tSize120 : tSize Try.prog 120 = some 4 := by kernel_rfl
theorem tBytes120 : tBytes Try.prog 120 = some 40 := by kernel_rfl
theorem tAgg120 : tAgg Try.prog 120 = some true := by kernel_rfl
theorem tZero120 : tZero Try.prog 120 = some (Value.agg #[(Value.pointer none), (Value.pointer none), (Value.pointer none), (Value.string ⟨#[]⟩)]) := by kernel_rfl
theorem tPlaces120 : tPlaces Try.prog 120 = some [(0, 1), (1, 1), (2, 1), (3, 1)] := by kernel_rfl
theorem tField120_0 : tField Try.prog 120 0 = some (0, 17) := by kernel_rfl
theorem tField120_1 : tField Try.prog 120 1 = some (1, 17) := by kernel_rfl
theorem tField120_2 : tField Try.prog 120 2 = some (2, 17) := by kernel_rfl
theorem tField120_3 : tField Try.prog 120 3 = some (3, 9) := by kernel_rfl
theorem tIs120 : (Try.prog.underlying 120).isSome = true := by kernel_rfl
theorem tSize121 : tSize Try.prog 121 = some 0 := by kernel_rfl
theorem tBytes121 : tBytes Try.prog 121 = some 0 := by kernel_rfl
theorem tAgg121 : tAgg Try.prog 121 = some true := by kernel_rfl
theorem tZero121 : tZero Try.prog 121 = some (Value.agg #[]) := by kernel_rfl
theorem tPlaces121 : tPlaces Try.prog 121 = none := by kernel_rfl
theorem tArr121 : tArr Try.prog 121 = some (0, 1) := by kernel_rfl
theorem tIs121 : (Try.prog.underlying 121).isSome = true := by kernel_rfl
theorem tSize122 : tSize Try.prog 122 = some 0 := by kernel_rfl
theorem tBytes122 : tBytes Try.prog 122 = some 0 := by kernel_rfl
theorem tAgg122 : tAgg Try.prog 122 = some true := by kernel_rfl
theorem tZero122 : tZero Try.prog 122 = some (Value.agg #[]) := by kernel_rfl
theorem tPlaces122 : tPlaces Try.prog 122 = some [(0, 0)] := by kernel_rfl
theorem tIs122 : (Try.prog.underlying 122).isSome = true := by kernel_rfl
theorem tSize123 : tSize Try.prog 123 = some 0 := by kernel_rfl
theorem tBytes123 : tBytes Try.prog 123 = some 0 := by kernel_rfl
theorem tAgg123 : tAgg Try.prog 123 = some true := by kernel_rfl
theorem tZero123 : tZero Try.prog 123 = some (Value.agg #[]) := by kernel_rfl
theorem tPlaces123 : tPlaces Try.prog 123 = some [(0, 0)] := by kernel_rfl
theorem tIs123 : (Try.prog.underlying 123).isSome = true := by kernel_rfl
theorem tSize125 : tSize Try.prog 125 = some 1 := by kernel_rfl
theorem tBytes125 : tBytes Try.prog 125 = some 1 := by kernel_rfl
theorem tAgg125 : tAgg Try.prog 125 = some false := by kernel_rfl
theorem tZero125 : tZero Try.prog 125 = some (Value.int IntKind.u8 0) := by kernel_rfl
theorem tInt125 : tInt Try.prog 125 = some IntKind.u8 := by kernel_rfl
theorem tIs125 : (Try.prog.underlying 125).isSome = true := by kernel_rfl
theorem tSize126 : tSize Try.prog 126 = some 1 := by kernel_rfl
theorem tBytes126 : tBytes Try.prog 126 = some 1 := by kernel_rfl
theorem tAgg126 : tAgg Try.prog 126 = some false := by kernel_rfl
theorem tZero126 : tZero Try.prog 126 = some (Value.int IntKind.u8 0) := by kernel_rfl
theorem tInt126 : tInt Try.prog 126 = some IntKind.u8 := by kernel_rfl
theorem tIs126 : (Try.prog.underlying 126).isSome = true := by kernel_rfl
theorem tSize128 : tSize Try.prog 128 = some 1 := by kernel_rfl
theorem tBytes128 : tBytes Try.prog 128 = some 8 := by kernel_rfl
theorem tAgg128 : tAgg Try.prog 128 = some false := by kernel_rfl
theorem tZero128 : tZero Try.prog 128 = some (Value.pointer none) := by kernel_rfl
theorem tIs128 : (Try.prog.underlying 128).isSome = true := by kernel_rfl
theorem tSize129 : tSize Try.prog 129 = some 1 := by kernel_rfl
theorem tBytes129 : tBytes Try.prog 129 = some 4 := by kernel_rfl
theorem tAgg129 : tAgg Try.prog 129 = some false := by kernel_rfl
theorem tZero129 : tZero Try.prog 129 = some (Value.int IntKind.i32 0) := by kernel_rfl
theorem tInt129 : tInt Try.prog 129 = some IntKind.i32 := by kernel_rfl
theorem tIs129 : (Try.prog.underlying 129).isSome = true := by kernel_rfl
theorem tSize130 : tSize Try.prog 130 = some 1 := by kernel_rfl
theorem tBytes130 : tBytes Try.prog 130 = some 4 := by kernel_rfl
theorem tAgg130 : tAgg Try.prog 130 = some false := by kernel_rfl
theorem tZero130 : tZero Try.prog 130 = some (Value.int IntKind.i32 0) := by kernel_rfl
theorem tInt130 : tInt Try.prog 130 = some IntKind.i32 := by kernel_rfl
theorem tIs130 : (Try.prog.underlying 130).isSome = true := by kernel_rfl
theorem tSize131 : tSize Try.prog 131 = some 11 := by kernel_rfl
theorem tBytes131 : tBytes Try.prog 131 = some 48 := by kernel_rfl
theorem tAgg131 : tAgg Try.prog 131 = some true := by kernel_rfl
theorem tZero131 : tZero Try.prog 131 = some (Value.agg #[(Value.int IntKind.u64 0), (Value.int IntKind.u64 0), (Value.int IntKind.u32 0), (Value.int IntKind.u8 0), (Value.int IntKind.u8 0), (Value.int IntKind.u8 0), (Value.int IntKind.u8 0), Value.nilFunc, (Value.pointer none), (Value.int IntKind.i32 0), (Value.int IntKind.i32 0)]) := by kernel_rfl
theorem tPlaces131 : tPlaces Try.prog 131 = some [(0, 1), (1, 1), (2, 1), (3, 1), (4, 1), (5, 1), (6, 1), (7, 1), (8, 1), (9, 1), (10, 1)] := by kernel_rfl
theorem tField131_0 : tField Try.prog 131 0 = some (0, 12) := by kernel_rfl
theorem tField131_1 : tField Try.prog 131 1 = some (1, 12) := by kernel_rfl
theorem tField131_2 : tField Try.prog 131 2 = some (2, 96) := by kernel_rfl
theorem tField131_3 : tField Try.prog 131 3 = some (3, 125) := by kernel_rfl
theorem tField131_4 : tField Try.prog 131 4 = some (4, 5) := by kernel_rfl
theorem tField131_5 : tField Try.prog 131 5 = some (5, 5) := by kernel_rfl
theorem tField131_6 : tField Try.prog 131 6 = some (6, 126) := by kernel_rfl
theorem tField131_8 : tField Try.prog 131 8 = some (8, 128) := by kernel_rfl
theorem tField131_9 : tField Try.prog 131 9 = some (9, 129) := by kernel_rfl
theorem tField131_10 : tField Try.prog 131 10 = some (10, 130) := by kernel_rfl
theorem tIs131 : (Try.prog.underlying 131).isSome = true := by kernel_rfl
theorem tSize132 : tSize Try.prog 132 = some 11 := by kernel_rfl
theorem tBytes132 : tBytes Try.prog 132 = some 48 := by kernel_rfl
theorem tAgg132 : tAgg Try.prog 132 = some true := by kernel_rfl
theorem tZero132 : tZero Try.prog 132 = some (Value.agg #[(Value.int IntKind.u64 0), (Value.int IntKind.u64 0), (Value.int IntKind.u32 0), (Value.int IntKind.u8 0), (Value.int IntKind.u8 0), (Value.int IntKind.u8 0), (Value.int IntKind.u8 0), Value.nilFunc, (Value.pointer none), (Value.int IntKind.i32 0), (Value.int IntKind.i32 0)]) := by kernel_rfl
theorem tPlaces132 : tPlaces Try.prog 132 = some [(0, 1), (1, 1), (2, 1), (3, 1), (4, 1), (5, 1), (6, 1), (7, 1), (8, 1), (9, 1), (10, 1)] := by kernel_rfl
theorem tField132_0 : tField Try.prog 132 0 = some (0, 12) := by kernel_rfl
theorem tField132_1 : tField Try.prog 132 1 = some (1, 12) := by kernel_rfl
theorem tField132_2 : tField Try.prog 132 2 = some (2, 96) := by kernel_rfl
theorem tField132_3 : tField Try.prog 132 3 = some (3, 125) := by kernel_rfl
theorem tField132_4 : tField Try.prog 132 4 = some (4, 5) := by kernel_rfl
theorem tField132_5 : tField Try.prog 132 5 = some (5, 5) := by kernel_rfl
theorem tField132_6 : tField Try.prog 132 6 = some (6, 126) := by kernel_rfl
theorem tField132_8 : tField Try.prog 132 8 = some (8, 128) := by kernel_rfl
theorem tField132_9 : tField Try.prog 132 9 = some (9, 129) := by kernel_rfl
theorem tField132_10 : tField Try.prog 132 10 = some (10, 130) := by kernel_rfl
theorem tIs132 : (Try.prog.underlying 132).isSome = true := by kernel_rfl
theorem tSize133 : tSize Try.prog 133 = some 2 := by kernel_rfl
theorem tBytes133 : tBytes Try.prog 133 = some 24 := by kernel_rfl
theorem tAgg133 : tAgg Try.prog 133 = some true := by kernel_rfl
theorem tZero133 : tZero Try.prog 133 = some (Value.agg #[(Value.string ⟨#[]⟩), (Value.int IntKind.i64 0)]) := by kernel_rfl
theorem tPlaces133 : tPlaces Try.prog 133 = some [(0, 1), (1, 1)] := by kernel_rfl
theorem tField133_0 : tField Try.prog 133 0 = some (0, 9) := by kernel_rfl
theorem tField133_1 : tField Try.prog 133 1 = some (1, 3) := by kernel_rfl
theorem tIs133 : (Try.prog.underlying 133).isSome = true := by kernel_rfl
theorem tSize134 : tSize Try.prog 134 = some 2 := by kernel_rfl
theorem tBytes134 : tBytes Try.prog 134 = some 24 := by kernel_rfl
theorem tAgg134 : tAgg Try.prog 134 = some true := by kernel_rfl
theorem tZero134 : tZero Try.prog 134 = some (Value.agg #[(Value.string ⟨#[]⟩), (Value.int IntKind.i64 0)]) := by kernel_rfl
theorem tPlaces134 : tPlaces Try.prog 134 = some [(0, 1), (1, 1)] := by kernel_rfl
theorem tFlat134 : tFlat Try.prog 134 = some [1, 0] := by kernel_rfl
theorem tField134_0 : tField Try.prog 134 0 = some (0, 9) := by kernel_rfl
theorem tField134_1 : tField Try.prog 134 1 = some (1, 3) := by kernel_rfl
theorem tIs134 : (Try.prog.underlying 134).isSome = true := by kernel_rfl
theorem tSize135 : tSize Try.prog 135 = some 2 := by kernel_rfl
theorem tBytes135 : tBytes Try.prog 135 = some 16 := by kernel_rfl
theorem tAgg135 : tAgg Try.prog 135 = some true := by kernel_rfl
theorem tZero135 : tZero Try.prog 135 = some (Value.agg #[(Value.int IntKind.i64 0), (Value.int IntKind.i64 0)]) := by kernel_rfl
theorem tPlaces135 : tPlaces Try.prog 135 = some [(0, 1), (1, 1)] := by kernel_rfl
theorem tField135_0 : tField Try.prog 135 0 = some (0, 22) := by kernel_rfl
theorem tField135_1 : tField Try.prog 135 1 = some (1, 3) := by kernel_rfl
theorem tIs135 : (Try.prog.underlying 135).isSome = true := by kernel_rfl
theorem tSize136 : tSize Try.prog 136 = some 2 := by kernel_rfl
theorem tBytes136 : tBytes Try.prog 136 = some 16 := by kernel_rfl
theorem tAgg136 : tAgg Try.prog 136 = some true := by kernel_rfl
theorem tZero136 : tZero Try.prog 136 = some (Value.agg #[(Value.int IntKind.i64 0), (Value.int IntKind.i64 0)]) := by kernel_rfl
theorem tPlaces136 : tPlaces Try.prog 136 = some [(0, 1), (1, 1)] := by kernel_rfl
theorem tFlat136 : tFlat Try.prog 136 = some [0, 0] := by kernel_rfl
theorem tField136_0 : tField Try.prog 136 0 = some (0, 22) := by kernel_rfl
theorem tField136_1 : tField Try.prog 136 1 = some (1, 3) := by kernel_rfl
theorem tIs136 : (Try.prog.underlying 136).isSome = true := by kernel_rfl
attribute [go_sem] tSize2 tBytes2 tAgg2 tZero2 tInt2 tIs2 tSize3 tBytes3 tAgg3 tZero3 tInt3 tIs3 tSize4 tBytes4 tAgg4 tZero4 tIs4 tSize5 tBytes5 tAgg5 tZero5 tInt5 tIs5 tSize6 tBytes6 tAgg6 tZero6 tInt6 tIs6 tSize7 tBytes7 tAgg7 tZero7 tPlaces7 tField7_0 tField7_1 tField7_2 tField7_3 tIs7 tSize8 tBytes8 tAgg8 tZero8 tPlaces8 tField8_0 tField8_1 tField8_2 tField8_3 tIs8 tSize9 tBytes9 tAgg9 tZero9 tStr9 tIs9 tSize10 tBytes10 tAgg10 tZero10 tStr10 tIs10 tSize11 tBytes11 tAgg11 tZero11 tStr11 tIs11 tSize12 tBytes12 tAgg12 tZero12 tInt12 tIs12 tSize13 tBytes13 tAgg13 tZero13 tPlaces13 tField13_0 tField13_1 tIs13 tSize14 tBytes14 tAgg14 tZero14 tPlaces14 tField14_0 tField14_1 tIs14 tSize15 tBytes15 tAgg15 tZero15 tIs15 tSize16 tBytes16 tAgg16 tZero16 tIs16 tSize17 tBytes17 tAgg17 tZero17 tIs17 tSize18 tBytes18 tAgg18 tZero18 tPlaces18 tField18_0 tIs18 tSize19 tBytes19 tAgg19 tZero19 tPlaces19 tField19_0 tIs19 tSize21 tBytes21 tAgg21 tZero21 tInt21 tIs21 tSize22 tBytes22 tAgg22 tZero22 tInt22 tIs22 tSize23 tBytes23 tAgg23 tZero23 tElem23 tIs23 tSize24 tBytes24 tAgg24 tZero24 tElem24 tIs24 tSize25 tBytes25 tAgg25 tZero25 tElem25 tIs25 tSize26 tBytes26 tAgg26 tZero26 tElem26 tIs26 tSize27 tBytes27 tAgg27 tZero27 tPlaces27 tField27_0 tField27_1 tField27_2 tField27_3 tField27_4 tField27_5 tField27_6 tField27_7 tField27_8 tIs27 tSize28 tBytes28 tAgg28 tZero28 tPlaces28 tField28_0 tField28_1 tField28_2 tField28_3 tField28_4 tField28_5 tField28_6 tField28_7 tField28_8 tIs28 tSize29 tBytes29 tAgg29 tZero29 tPlaces29 tField29_0 tField29_1 tField29_2 tField29_3 tField29_4 tField29_5 tField29_6 tField29_7 tIs29 tSize30 tBytes30 tAgg30 tZero30 tPlaces30 tField30_0 tField30_1 tField30_2 tField30_3 tField30_4 tField30_5 tField30_6 tField30_7 tIs30 tSize31 tBytes31 tAgg31 tZero31 tPlaces31 tField31_0 tField31_1 tIs31 tSize32 tBytes32 tAgg32 tZero32 tPlaces32 tFlat32 tField32_0 tField32_1 tIs32 tSize33 tBytes33 tAgg33 tZero33 tPlaces33 tField33_0 tField33_1 tField33_2 tField33_3 tField33_4 tField33_5 tField33_6 tField33_7 tField33_8 tField33_9 tField33_10 tField33_11 tField33_12 tIs33 tSize34 tBytes34 tAgg34 tZero34 tPlaces34 tField34_0 tField34_1 tField34_2 tField34_3 tField34_4 tField34_5 tField34_6 tField34_7 tField34_8 tField34_9 tField34_10 tField34_11 tField34_12 tIs34 tSize35 tBytes35 tAgg35 tZero35 tInt35 tIs35 tSize40 tBytes40 tAgg40 tZero40 tElem40 tIs40 tSize43 tBytes43 tAgg43 tZero43 tElem43 tIs43 tSize44 tBytes44 tAgg44 tZero44 tPlaces44 tField44_0 tField44_1 tField44_2 tField44_3 tIs44 tSize45 tBytes45 tAgg45 tZero45 tPlaces45 tField45_0 tField45_1 tField45_2 tField45_3 tIs45 tSize48 tBytes48 tAgg48 tZero48 tInt48 tIs48 tSize57 tBytes57 tAgg57 tZero57 tPlaces57 tField57_0 tField57_1 tIs57 tSize58 tBytes58 tAgg58 tZero58 tPlaces58 tFlat58 tField58_0 tField58_1 tIs58 tSize59 tBytes59 tAgg59 tZero59 tPlaces59 tField59_0 tField59_1 tIs59 tSize60 tBytes60 tAgg60 tZero60 tPlaces60 tFlat60 tField60_0 tField60_1 tIs60 tSize72 tBytes72 tAgg72 tZero72 tMap72 tIs72 tSize74 tBytes74 tAgg74 tZero74 tMap74 tIs74 tSize75 tBytes75 tAgg75 tZero75 tMap75 tIs75 tSize76 tBytes76 tAgg76 tZero76 tPlaces76 tField76_0 tField76_1 tIs76 tSize77 tBytes77 tAgg77 tZero77 tPlaces77 tFlat77 tField77_0 tField77_1 tIs77 tSize85 tBytes85 tAgg85 tZero85 tInt85 tIs85 tSize88 tBytes88 tAgg88 tZero88 tInt88 tIs88 tSize96 tBytes96 tAgg96 tZero96 tInt96 tIs96 tSize98 tBytes98 tAgg98 tZero98 tInt98 tIs98 tSize105 tBytes105 tAgg105 tZero105 tInt105 tIs105 tSize109 tBytes109 tAgg109 tZero109 tIs109 tSize114 tBytes114 tAgg114 tZero114 tIs114 tSize119 tBytes119 tAgg119 tZero119 tPlaces119 tField119_0 tField119_1 tField119_2 tField119_3 tIs119 tSize120 tBytes120 tAgg120 tZero120 tPlaces120 tField120_0 tField120_1 tField120_2 tField120_3 tIs120 tSize121 tBytes121 tAgg121 tZero121 tPlaces121 tArr121 tIs121 tSize122 tBytes122 tAgg122 tZero122 tPlaces122 tIs122 tSize123 tBytes123 tAgg123 tZero123 tPlaces123 tIs123 tSize125 tBytes125 tAgg125 tZero125 tInt125 tIs125 tSize126 tBytes126 tAgg126 tZero126 tInt126 tIs126 tSize128 tBytes128 tAgg128 tZero128 tIs128 tSize129 tBytes129 tAgg129 tZero129 tInt129 tIs129 tSize130 tBytes130 tAgg130 tZero130 tInt130 tIs130 tSize131 tBytes131 tAgg131 tZero131 tPlaces131 tField131_0 tField131_1 tField131_2 tField131_3 tField131_4 tField131_5 tField131_6 tField131_8 tField131_9 tField131_10 tIs131 tSize132 tBytes132 tAgg132 tZero132 tPlaces132 tField132_0 tField132_1 tField132_2 tField132_3 tField132_4 tField132_5 tField132_6 tField132_8 tField132_9 tField132_10 tIs132 tSize133 tBytes133 tAgg133 tZero133 tPlaces133 tField133_0 tField133_1 tIs133 tSize134 tBytes134 tAgg134 tZero134 tPlaces134 tFlat134 tField134_0 tField134_1 tIs134 tSize135 tBytes135 tAgg135 tZero135 tPlaces135 tField135_0 tField135_1 tIs135 tSize136 tBytes136 tAgg136 tZero136 tPlaces136 tFlat136 tField136_0 tField136_1 tIs136
end Go.Proofs.Ytckoolpjphhfdaa
