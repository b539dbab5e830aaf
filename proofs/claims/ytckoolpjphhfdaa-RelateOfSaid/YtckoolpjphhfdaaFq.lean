/- The proof layer: what the walk rewrites with, each for one shape alone. No condition. -/
import Derived.Test.YtckoolpjphhfdaaFo
import Derived.Test.YtckoolpjphhfdaaFn
namespace Go.Abs
open Go Go.RowKit

/-- Equal as it stands; a proof all the same, so that the walk's simp sees that something was done. -/
theorem nrfl {α : Sort _} (a : α) : a = a := Eq.trans rfl rfl

section
variable {P : Program} {st : St} {id : Nat}

theorem q_ev_tmp (t : Tmp) : st.ev (.tmp t) = st.σ t := nrfl _
theorem q_ev_const (x : Value) : st.ev (.const x) = .v x := nrfl _
theorem q_ev_global (g : Nat) : st.ev (.global g) = .v (.pointer (some ⟨g, 0, none⟩)) := nrfl _
theorem q_ev_func (f : FuncId) : st.ev (.func f) = .fn (.func f) [] [] := nrfl _

theorem q_put_σ (d : Tmp) (r : AV) (j : Nat) : (st.put (some d) r).σ j = if j = d then r else st.σ j := nrfl _
theorem q_put_ver (d : Option Tmp) (r : AV) : (st.put d r).ver = st.ver := by cases d <;> exact nrfl _
theorem q_put_h (d : Option Tmp) (r : AV) : (st.put d r).h = st.h := by cases d <;> exact nrfl _
theorem q_put_none (r : AV) : st.put none r = st := nrfl _
theorem q_setArr_σ (i e sz : Nat) (xs : List AV) : (st.setArr i e sz xs).σ = st.σ := nrfl _
theorem q_setArr_ver (i e sz : Nat) (xs : List AV) (j : Nat) : (st.setArr i e sz xs).ver j = if j = i then st.ver i + 1 else st.ver j := nrfl _
theorem q_setArr_h (i e sz : Nat) (xs : List AV) (j : Nat) : (st.setArr i e sz xs).h j = if j = i then .arr e sz xs else st.h j := nrfl _
theorem q_setBox_σ (i : Nat) (xs : List AV) : (st.setBox i xs).σ = st.σ := nrfl _
theorem q_setBox_ver (i : Nat) (xs : List AV) (j : Nat) : (st.setBox i xs).ver j = if j = i then st.ver i + 1 else st.ver j := nrfl _
theorem q_setBox_h (i : Nat) (xs : List AV) (j : Nat) : (st.setBox i xs).h j = if j = i then .box xs else st.h j := nrfl _
theorem q_setH_σ (i : Nat) (b : Blk) : (st.setH i b).σ = st.σ := nrfl _
theorem q_setH_ver (i : Nat) (b : Blk) : (st.setH i b).ver = st.ver := nrfl _
theorem q_setH_h (i : Nat) (b : Blk) (j : Nat) : (st.setH i b).h j = if j = i then b else st.h j := nrfl _
theorem q_start_σ (args : List AV) (j : Nat) : (startSt args).σ j = argAt args j := nrfl _
theorem q_start_ver (args : List AV) (j : Nat) : (startSt args).ver j = 0 := nrfl _
theorem q_start_h (args : List AV) (j : Nat) : (startSt args).h j = .none := nrfl _
theorem q_freeze_σ (i j : Nat) : (st.freeze i).σ j = fz st i (st.σ j) := nrfl _
theorem q_freeze_ver (i : Nat) : (st.freeze i).ver = st.ver := nrfl _
theorem q_freeze_h (i j : Nat) : (st.freeze i).h j = if j = i then .none else fzB st i (st.h j) := nrfl _
theorem q_freezes_nil : st.freezes [] = st := nrfl _
theorem q_freezes_cons (i : Nat) (l : List Nat) : st.freezes (i :: l) = (st.freeze i).freezes l := nrfl _
theorem q_ownNil_σ (i e sz d j : Nat) : (st.ownNil i e sz d).σ j = if j = d then .ref i (st.ver i + 1) else st.σ j := nrfl _
theorem q_ownNil_ver (i e sz d j : Nat) : (st.ownNil i e sz d).ver j = if j = i then st.ver i + 1 else st.ver j := nrfl _
theorem q_ownNil_h (i e sz d j : Nat) : (st.ownNil i e sz d).h j = if j = i then .arr e sz [] else st.h j := nrfl _
theorem q_guard_bool (b want : Bool) : guardV (.v (.bool b)) want = some (b == want) := nrfl _
theorem q_guard_undef (want : Bool) : guardV (.v undef) want = some false := nrfl _
theorem q_guardSlot (ops : Array Oper) (j : Nat) : guardSlot ops j = (ops[j]?).bind (·.dst) := nrfl _
/-- What is made of an own array. -/
def onArr {α : Type} (b : Blk) (no : α) (f : Nat → Nat → List AV → α) : α :=
  match b with
  | .arr e sz xs => f e sz xs
  | _ => no
theorem q_onArr {α : Type} (no : α) (f : Nat → Nat → List AV → α) (e sz : Nat) (xs : List AV) : onArr (.arr e sz xs) no f = f e sz xs := nrfl _
/-- What is made of an own block. -/
def onBlk {α : Type} (b : Blk) (no : α) (f : Nat → Nat → List AV → α) (g : List AV → α) : α :=
  match b with
  | .arr e sz xs => f e sz xs
  | .box cs => g cs
  | _ => no
/-- What is made of an own array or map. -/
def onRef {α : Type} (b : Blk) (no : α) (f : Nat → Nat → List AV → α) (g : Array MapEntry → Nat → α) : α :=
  match b with
  | .arr e sz xs => f e sz xs
  | .map es clk => g es clk
  | _ => no
theorem q_onRef_arr {α : Type} (no : α) (f : Nat → Nat → List AV → α) (g : Array MapEntry → Nat → α) (e sz : Nat) (xs : List AV) : onRef (.arr e sz xs) no f g = f e sz xs := nrfl _
theorem q_onRef_map {α : Type} (no : α) (f : Nat → Nat → List AV → α) (g : Array MapEntry → Nat → α) (es : Array MapEntry) (clk : Nat) : onRef (.map es clk) no f g = g es clk := nrfl _
theorem q_onBlk_arr {α : Type} (no : α) (f : Nat → Nat → List AV → α) (g : List AV → α) (e sz : Nat) (xs : List AV) : onBlk (.arr e sz xs) no f g = f e sz xs := nrfl _
theorem q_onBlk_box {α : Type} (no : α) (f : Nat → Nat → List AV → α) (g : List AV → α) (cs : List AV) : onBlk (.box cs) no f g = g cs := nrfl _
theorem q_cells_v (x : Value) : (AV.v x).cells = [.v x] := nrfl _
theorem q_cells_agg (cs : List AV) : (AV.agg cs).cells = cs := nrfl _
theorem q_cells_full (sz : Nat) (xs : List AV) : (AV.full sz xs).cells = [.full sz xs] := nrfl _
theorem q_cells_lst (sz : Nat) (xs : List AV) : (AV.lst sz xs).cells = [.lst sz xs] := nrfl _
theorem q_cells_ref (i k : Nat) : (AV.ref i k).cells = [.ref i k] := nrfl _
theorem q_cells_rptr (i k n j : Nat) : (AV.rptr i k n j).cells = [.rptr i k n j] := nrfl _
theorem q_cells_eptr (cs : List AV) (j : Nat) : (AV.eptr cs j).cells = [.eptr cs j] := nrfl _
theorem q_cells_fn (f : Fn) (a b : List AV) : (AV.fn f a b).cells = [.fn f a b] := nrfl _

theorem q_nil_v (x : Value) : nilSrc st (.v x) = none := nrfl _
theorem q_nil_lst (sz : Nat) (xs : List AV) : nilSrc st (.lst sz xs) = some xs := nrfl _
theorem q_nil_mapv (es : Array MapEntry) (clk : Nat) : nilSrc st (.mapv es clk) = none := nrfl _
theorem q_nil_agg (cs : List AV) : nilSrc st (.agg cs) = none := nrfl _
theorem q_nil_ref (i k : Nat) (hk : k = st.ver i) : nilSrc st (.ref i k) = onArr (st.h i) none fun _ _ xs => some xs := by
  simp only [nilSrc, hk, if_true]; cases st.h i <;> rfl

theorem q_ok_v (x : Value) : okCell st (.v x) = x.oneCell' := nrfl _
theorem q_ok_lst (sz : Nat) (xs : List AV) : okCell st (.lst sz xs) = true := nrfl _
theorem q_ok_eptr (cs : List AV) (j : Nat) : okCell st (.eptr cs j) = true := nrfl _
theorem q_ok_fn (f : Fn) (a b : List AV) : okCell st (.fn f a b) = true := nrfl _
theorem q_ok_rptr (i k n j : Nat) : okCell st (.rptr i k n j) = (k == st.ver i) := nrfl _
theorem q_ok_ref (i k : Nat) (hk : k = st.ver i) : okCell st (.ref i k) = onRef (st.h i) false (fun _ _ _ => true) (fun _ _ => true) := by
  simp only [okCell, hk, beq_self_eq_true, Bool.true_and]; cases st.h i <;> rfl
theorem q_ok_mapv (es : Array MapEntry) (clk : Nat) : okCell st (.mapv es clk) = true := nrfl _
theorem q_one_map (m : Option Nat) : (Value.map m).oneCell' = true := nrfl _
theorem q_one_int (k : IntKind) (n : Int) : (Value.int k n).oneCell' = true := nrfl _
theorem q_one_bool (b : Bool) : (Value.bool b).oneCell' = true := nrfl _
theorem q_one_string (s : ByteArray) : (Value.string s).oneCell' = true := nrfl _
theorem q_one_slice (a : Option Addr) (n c : Nat) : (Value.slice a n c).oneCell' = true := nrfl _

theorem q_ld_eptr (m : Nat) (cs : List AV) (j : Nat) : ldCells st m (.eptr cs j) = if j + m ≤ cs.length then some ((cs.drop j).take m) else none := nrfl _
theorem q_ld_rptr (m i k n j : Nat) (hk : k = st.ver i) : ldCells st m (.rptr i k n j) = onBlk (st.h i) none (fun _ _ xs => (xs[n]?).bind fun x => if j + m ≤ x.cells.length then some ((x.cells.drop j).take m) else none) (fun cs => if n = 0 ∧ j + m ≤ cs.length then some ((cs.drop j).take m) else none) := by
  simp only [ldCells, hk, if_true]
  cases st.h i with
  | arr e sz xs => simp only [onBlk]; cases xs[n]? <;> rfl
  | _ => rfl
theorem q_mk_true (cs : List AV) : mkAV true cs = some (.agg cs) := nrfl _
theorem q_mk_false (c : AV) : mkAV false [c] = some c := nrfl _

theorem q_bin_int (op : BinOp) (t : TypeId) (k : IntKind) (x y : Int) : binAV P op t (.v (.int k x)) (.v (.int k y)) = intBin op k x y := by simp [binAV]
theorem q_bin_str (op : BinOp) (t : TypeId) (x y : ByteArray) : binAV P op t (.v (.string x)) (.v (.string y)) = strBin op x y := nrfl _
theorem q_bin_bool (op : BinOp) (t : TypeId) (x y : Bool) : binAV P op t (.v (.bool x)) (.v (.bool y)) = boolBin P op t x y := nrfl _
theorem q_bin_agg (op : BinOp) (t : TypeId) (xs ys : List AV) : binAV P op t (.agg xs) (.agg ys) = (tFlat P t).bind fun ks => (eqKinds ks xs ys).bind (eqOp op) := nrfl _
theorem q_eqOp_eql (b : Bool) : eqOp .eql b = some (.v (.bool b)) := nrfl _
theorem q_eqOp_neq (b : Bool) : eqOp .neq b = some (.v (.bool !b)) := nrfl _
theorem q_ek_nil : eqKinds [] [] [] = some true := nrfl _
theorem q_ek_int (ks : List Nat) (k : IntKind) (x y : Int) (ps qs : List AV) : eqKinds (0 :: ks) (.v (.int k x) :: ps) (.v (.int k y) :: qs) = (eqKinds ks ps qs).map fun b => (x == y) && b := by simp [eqKinds]
theorem q_ek_str (ks : List Nat) (x y : ByteArray) (ps qs : List AV) : eqKinds (1 :: ks) (.v (.string x) :: ps) (.v (.string y) :: qs) = (eqKinds ks ps qs).map fun b => (x.toList == y.toList) && b := nrfl _
theorem q_ek_bool (ks : List Nat) (x y : Bool) (ps qs : List AV) : eqKinds (2 :: ks) (.v (.bool x) :: ps) (.v (.bool y) :: qs) = (eqKinds ks ps qs).map fun b => (x == y) && b := nrfl _
theorem q_int_add (k : IntKind) (x y : Int) : intBin .add k x y = some (.v (.int k (k.wrap (x + y)))) := nrfl _
theorem q_int_sub (k : IntKind) (x y : Int) : intBin .sub k x y = some (.v (.int k (k.wrap (x - y)))) := nrfl _
theorem q_int_mul (k : IntKind) (x y : Int) : intBin .mul k x y = some (.v (.int k (k.wrap (x * y)))) := nrfl _
theorem q_int_quo (k : IntKind) (x y : Int) : intBin .quo k x y = if y = 0 then none else some (.v (.int k (k.wrap (x.tdiv y)))) := nrfl _
theorem q_int_rem (k : IntKind) (x y : Int) : intBin .rem k x y = if y = 0 then none else some (.v (.int k (x.tmod y))) := nrfl _
theorem q_int_eql (k : IntKind) (x y : Int) : intBin .eql k x y = some (.v (.bool (x == y))) := nrfl _
theorem q_int_neq (k : IntKind) (x y : Int) : intBin .neq k x y = some (.v (.bool (x != y))) := nrfl _
theorem q_int_lss (k : IntKind) (x y : Int) : intBin .lss k x y = some (.v (.bool (x < y))) := nrfl _
theorem q_int_leq (k : IntKind) (x y : Int) : intBin .leq k x y = some (.v (.bool (x ≤ y))) := nrfl _
theorem q_int_gtr (k : IntKind) (x y : Int) : intBin .gtr k x y = some (.v (.bool (y < x))) := nrfl _
theorem q_int_geq (k : IntKind) (x y : Int) : intBin .geq k x y = some (.v (.bool (y ≤ x))) := nrfl _
theorem q_str_add (x y : ByteArray) : strBin .add x y = if ((x.size + y.size : Nat) : Int) > IntKind.i64.max then none else some (.v (.string (x ++ y))) := nrfl _
theorem q_str_eql (x y : ByteArray) : strBin .eql x y = some (.v (.bool (x.toList == y.toList))) := nrfl _
theorem q_str_neq (x y : ByteArray) : strBin .neq x y = some (.v (.bool (!(x.toList == y.toList)))) := nrfl _
theorem q_str_lss (x y : ByteArray) : strBin .lss x y = some (.v (.bool (Op.bytesLess x.toList y.toList))) := nrfl _
theorem q_str_leq (x y : ByteArray) : strBin .leq x y = some (.v (.bool (Op.bytesLess x.toList y.toList || x.toList == y.toList))) := nrfl _
theorem q_str_gtr (x y : ByteArray) : strBin .gtr x y = some (.v (.bool (!(Op.bytesLess x.toList y.toList || x.toList == y.toList)))) := nrfl _
theorem q_str_geq (x y : ByteArray) : strBin .geq x y = some (.v (.bool (!(Op.bytesLess x.toList y.toList)))) := nrfl _
theorem q_bool_eql (t : TypeId) (x y : Bool) (h : P.underlying t = some .bool) : boolBin P .eql t x y = some (.v (.bool (x == y))) := by simp [boolBin, h]
theorem q_bool_neq (t : TypeId) (x y : Bool) (h : P.underlying t = some .bool) : boolBin P .neq t x y = some (.v (.bool (!(x == y)))) := by simp [boolBin, h]
theorem q_not (b : Bool) : unAV .not (.v (.bool b)) = some (.v (.bool !b)) := nrfl _
theorem q_int_shr (k : IntKind) (x : Int) : intBin .shr k x 1 = some (.v (.int k (x.fdiv 2))) := nrfl _
theorem q_neg (k : IntKind) (n : Int) : unAV .neg (.v (.int k n)) = some (.v (.int k (k.wrap (0 - n)))) := nrfl _
theorem q_conv (s d : TypeId) (k : IntKind) (n : Int) : convAV P s d (.v (.int k n)) = (tInt P d).map fun k => .v (.int k (k.wrap n)) := nrfl _
theorem q_fa_eptr (t : TypeId) (f : Nat) (cs : List AV) (j : Nat) : fieldAddrAV P st t f (.eptr cs j) = (tField P t f).map fun x => .eptr cs (j + x.1) := nrfl _
theorem q_fa_rptr (t : TypeId) (f i k n j : Nat) (hk : k = st.ver i) : fieldAddrAV P st t f (.rptr i k n j) = (tField P t f).map fun x => .rptr i k n (j + x.1) := by simp [fieldAddrAV, hk]
theorem q_ia_lst (t : TypeId) (sz : Nat) (xs : List AV) (k : IntKind) (i : Int) : indexAddrAV P st t (.lst sz xs) (.v (.int k i)) = if ((tElem P t).bind (tSize P)) = some sz ∧ 0 ≤ i ∧ i < xs.length then (xs[i.toNat]?).map fun x => .eptr x.cells 0 else none := nrfl _
theorem q_ia_eptr (t : TypeId) (cs : List AV) (j : Nat) (k : IntKind) (i : Int) : indexAddrAV P st t (.eptr cs j) (.v (.int k i)) = (tArr P t).bind fun x => if 0 ≤ i ∧ i < x.1 then some (.eptr cs (j + i.toNat * x.2)) else none := nrfl _
theorem q_ia_rptr (t : TypeId) (id v n j : Nat) (k : IntKind) (i : Int) (hk : v = st.ver id) : indexAddrAV P st t (.rptr id v n j) (.v (.int k i)) = (tArr P t).bind fun x => if 0 ≤ i ∧ i < x.1 then some (.rptr id v n (j + i.toNat * x.2)) else none := by simp [indexAddrAV, hk]
theorem q_sl_eptr (t : TypeId) (lo hi : Option Operand) (cs : List AV) (j : Nat) : sliceAV P st t lo hi none (.eptr cs j) = (tArr P t).bind fun x => if x.2 = 1 ∧ j + x.1 ≤ cs.length ∧ x.1 ≤ maxLen ∧ cs.all isV = true then
    (boundAV st 0 lo).bind fun l => (boundAV st x.1 hi).bind fun h => if l ≤ h ∧ h ≤ x.1 then some (.lst 1 ((cs.drop (j + l)).take (h - l))) else none else none := by
  simp only [sliceAV]
  cases tArr P t with
  | none => rfl
  | some x =>
    simp only [Option.bind_some, Option.isNone_none, true_and]
    split
    · cases boundAV st 0 lo <;> cases boundAV st x.1 hi <;> rfl
    · rfl
theorem q_conv_lst (s d : TypeId) (xs : List AV) : convAV P s d (.lst 1 xs) = if ((tElem P s).bind (tInt P)) = some .u8 ∧ tStr P d = true then (xs.mapM byteAV).map fun ns => .v (.string (strOfNums ns)) else none := nrfl _
theorem q_ix_str (t : TypeId) (s : ByteArray) (k : IntKind) (i : Int) : indexAV P t (.v (.string s)) (.v (.int k i)) = if tStr P t = true ∧ 0 ≤ i then (s[i.toNat]?).map fun b => .v (.int .u8 b.toNat) else none := nrfl _
theorem q_len_lst (t : TypeId) (sz : Nat) (xs : List AV) : lenAV P st t (.lst sz xs) = (tElem P t).map fun _ => .v (.int .i64 xs.length) := nrfl _
theorem q_len_ref (t : TypeId) (i k : Nat) (hk : k = st.ver i) : lenAV P st t (.ref i k) = onRef (st.h i) none (fun _ _ xs => (tElem P t).map fun _ => .v (.int .i64 xs.length)) (fun es _ => (tMap P t).map fun _ => .v (.int .i64 es.size)) := by
  simp only [lenAV, hk, if_true]; cases st.h i <;> rfl
theorem q_lookup (t : TypeId) (m k : Operand) (ok : Bool) : evalV P st (.lookup t m k ok) = lookupAV P st t ok (st.ev m) (st.ev k) := nrfl _
theorem q_look_mapv (t : TypeId) (ok : Bool) (es : Array MapEntry) (clk : Nat) (q : AV) : lookupAV P st t ok (.mapv es clk) q = lookAV P t ok es q := nrfl _
theorem q_look_ref (t : TypeId) (ok : Bool) (i k : Nat) (q : AV) (hk : k = st.ver i) : lookupAV P st t ok (.ref i k) q = onRef (st.h i) none (fun _ _ _ => none) (fun es _ => lookAV P t ok es q) := by
  simp only [lookupAV, hk, if_true]; cases st.h i <;> rfl
theorem q_lookAV (t : TypeId) (ok : Bool) (es : Array MapEntry) (n : Int) : lookAV P t ok es (.v (.int .i64 n)) = (tMap P t).bind fun x => if tInt P x.1 = some .i64 ∧ intM es = true then
      (tZero P x.2).map fun z => if ok = true then .tup [.v ((mget es n).getD z), .v (.bool (mget es n).isSome)] else .v ((mget es n).getD z) else none := nrfl _
theorem q_setMap_σ (i : Nat) (es : Array MapEntry) (clk : Nat) : (st.setMap i es clk).σ = st.σ := nrfl _
theorem q_setMap_ver (i : Nat) (es : Array MapEntry) (clk : Nat) (j : Nat) : (st.setMap i es clk).ver j = if j = i then st.ver i + 1 else st.ver j := nrfl _
theorem q_setMap_h (i : Nat) (es : Array MapEntry) (clk : Nat) (j : Nat) : (st.setMap i es clk).h j = if j = i then .map es clk else st.h j := nrfl _
/-- What is asked of an own map. -/
def onMapB (b : Blk) (f : Array MapEntry → Nat → Prop) : Prop :=
  match b with
  | .map es clk => f es clk
  | _ => False
theorem q_onMapB (es : Array MapEntry) (clk : Nat) (f : Array MapEntry → Nat → Prop) : onMapB (.map es clk) f = f es clk := nrfl _
@[congr] theorem onMapB_congr {b b' : Blk} {f : Array MapEntry → Nat → Prop} (h : b = b') : onMapB b f = onMapB b' f := by rw [h]
theorem q_onMap (i k : Nat) (f : Nat → Array MapEntry → Nat → Prop) (hk : k = st.ver i) : onMap st (.ref i k) f = onMapB (st.h i) (f i) := by
  subst hk; simp only [onMap, true_and]; rfl
theorem q_onKey (n : Int) (x : Value) (f : Int → Value → Prop) : onKey (.v (.int .i64 n)) (.v x) f = f n x := nrfl _
theorem q_hint_none : hintOK st none = True := nrfl _
def isIntAV (p : AV) : Prop := ∃ k n, p = .v (.int k n)
theorem q_isIntAV (k : IntKind) (n : Int) : isIntAV (.v (.int k n)) = True := eq_true ⟨k, n, rfl⟩
theorem q_hint_some (x : Operand) : hintOK st (some x) = isIntAV (st.ev x) := nrfl _
theorem q_fzB_mapB (es : Array MapEntry) (clk : Nat) : fzB st id (.map es clk) = .map es clk := nrfl _
theorem q_onKeyQ_int (k : IntKind) (n : Int) (f : KeyQ → Prop) (no : Prop) : onKeyQ (.v (.int k n)) f no = no := nrfl _
theorem q_onKeyQ_str (s : ByteArray) (f : KeyQ → Prop) (no : Prop) : onKeyQ (.v (.string s)) f no = f (.txt s) := nrfl _
theorem q_onKeyQ_two (a b : ByteArray) (f : KeyQ → Prop) (no : Prop) : onKeyQ (.agg [.v (.string a), .v (.string b)]) f no = f (.two a b) := nrfl _
theorem q_onVal (x : Value) (f : Value → Prop) : onVal (.v x) f = f x := nrfl _
theorem q_okT_txt {P : Program} (t : TypeId) (s : ByteArray) : (KeyQ.txt s).okT P t = tStr P t := nrfl _
theorem q_okT_two {P : Program} (t : TypeId) (a b : ByteArray) : (KeyQ.two a b).okT P t = (tFlat P t == some [1, 1]) := nrfl _
theorem q_lookAV_str {P : Program} (t : TypeId) (ok : Bool) (es : Array MapEntry) (s : ByteArray) : lookAV P t ok es (.v (.string s)) = (tMap P t).bind fun x => if tStr P x.1 = true ∧ qM es (.txt s) = true then
      (tZero P x.2).map fun z => if ok = true then .tup [.v ((qget es (.txt s)).getD z), .v (.bool (qget es (.txt s)).isSome)] else .v ((qget es (.txt s)).getD z) else none := nrfl _
theorem q_lookAV_two {P : Program} (t : TypeId) (ok : Bool) (es : Array MapEntry) (a b : ByteArray) : lookAV P t ok es (.agg [.v (.string a), .v (.string b)]) = (tMap P t).bind fun x => if (tFlat P x.1 == some [1, 1]) = true ∧ qM es (.two a b) = true then
      (tZero P x.2).map fun z => if ok = true then .tup [.v ((qget es (.two a b)).getD z), .v (.bool (qget es (.two a b)).isSome)] else .v ((qget es (.two a b)).getD z) else none := nrfl _
theorem q_qget_nil (k : KeyQ) : qget #[] k = none := nrfl _
theorem q_qM_nil (k : KeyQ) : qM #[] k = true := nrfl _
theorem q_mget_nil (n : Int) : mget #[] n = none := nrfl _
theorem q_intM_nil : intM #[] = true := nrfl _
theorem findI_go (n : Int) : ∀ (l : List MapEntry) (i : Nat), (findI n l i).map (·.2) = (l.find? (keyIs n)).map (·.val)
  | [], i => rfl
  | e :: l, i => by
    unfold findI
    cases hk : keyIs n e with
    | true => simp [hk, List.find?_cons]
    | false => simp only [Bool.false_eq_true, if_false, List.find?_cons, hk]; exact findI_go n l (i + 1)
theorem mget_eq (es : Array MapEntry) (n : Int) : mget es n = (es.toList.find? (keyIs n)).map (·.val) := findI_go n _ _
theorem find_app (n : Int) (l : List MapEntry) (e : MapEntry) : (l ++ [e]).find? (keyIs n) = (l.find? (keyIs n)).or (if keyIs n e = true then some e else none) := by
  rw [List.find?_append]; congr 1
  cases h : keyIs n e <;> simp [h, List.find?_cons]
theorem keyIs_mk (n m : Int) (v : Value) (b : Nat) : keyIs n { key := .int .i64 m, val := v, born := b } = (n == m) := nrfl _
theorem keyIs_val (n : Int) (e : MapEntry) (v : Value) : keyIs n { e with val := v } = keyIs n e := nrfl _
theorem keyIs_key2 (n m : Int) (e : MapEntry) (v : Value) (h : e.key = .int .i64 m) : keyIs n e = (n == m) := by unfold keyIs; rw [h]
theorem find_set (n m : Int) (v : Value) : ∀ (l : List MapEntry) (j : Nat) (e : MapEntry), l[j]? = some e → keyIs m e = true → (∀ k e', k < j → l[k]? = some e' → keyIs m e' = false) →
    ((l.set j { key := .int .i64 m, val := v, born := e.born }).find? (keyIs n)).map (·.val) = if m = n then some v else (l.find? (keyIs n)).map (·.val)
  | [], j, e, h, _, _ => by simp at h
  | x :: l, 0, e, h, hk, _ => by
    simp at h; subst h
    have hke : keyIs n x = (n == m) := by unfold keyIs; rw [keyIs_key hk]
    simp only [List.set_cons_zero, List.find?_cons, keyIs_mk, hke]
    by_cases g : m = n
    · subst g; simp
    · have : (n == m) = false := by simpa using Ne.symm g
      rw [this, if_neg g]
  | x :: l, j + 1, e, h, hk, hno => by
    have hx : keyIs m x = false := hno 0 x (by omega) rfl
    have ih := find_set n m v l j e (by simpa using h) hk (fun k e' hk' he' => hno (k + 1) e' (by omega) (by simpa using he'))
    simp only [List.set_cons_succ, List.find?_cons]
    cases hn : keyIs n x with
    | true =>
      by_cases g : m = n
      · subst g; rw [hx] at hn; cases hn
      · rw [if_neg g]
    | false => exact ih
theorem q_mput_get (es : Array MapEntry) (clk : Nat) (m : Int) (v : Value) (n : Int) : mget (mput es clk m v).1 n = if m = n then some v else mget es n := by
  rw [mget_eq, mget_eq]
  unfold mput
  cases hf : findI m es.toList 0 with
  | some x =>
    obtain ⟨j, e, rfl, h1, h2, h3⟩ := findI_some m _ _ _ hf
    have hj : j < es.size := by simpa using (List.getElem?_eq_some_iff.1 h1).1
    have he : es[j] = e := by
      have := (List.getElem?_eq_some_iff.1 h1).2
      simpa using this
    have : (es.modify (0 + j) fun e => { e with key := .int .i64 m, val := v }).toList = es.toList.set j { key := .int .i64 m, val := v, born := e.born } := by
      rw [Nat.zero_add, Array.toList_modify]
      apply List.ext_getElem?
      intro k
      rw [List.getElem?_modify, List.getElem?_set]
      by_cases g : j = k
      · subst g; simp [hj, he]
      · simp [g]
    simp only [this]
    exact find_set n m v _ j e h1 h2 h3
  | none =>
    have hno := (findI_none m _ 0).1 hf
    simp only [Array.toList_push, find_app, keyIs_mk]
    by_cases g : m = n
    · subst g
      have : es.toList.find? (keyIs m) = none := List.find?_eq_none.2 fun e he => by rw [hno e he]; simp
      simp [this]
    · have : (n == m) = false := by simpa using Ne.symm g
      rw [if_neg g]
      simp [this]
theorem q_mput_int (es : Array MapEntry) (clk : Nat) (m : Int) (v : Value) (h : intM es = true) : intM (mput es clk m v).1 = true := by
  unfold mput
  unfold intM at h ⊢
  rw [List.all_eq_true] at h
  cases hf : findI m es.toList 0 with
  | some x =>
    obtain ⟨j, e, rfl, h1, h2, h3⟩ := findI_some m _ _ _ hf
    rw [List.all_eq_true]
    intro y hy
    obtain ⟨k, hk⟩ := List.mem_iff_getElem?.1 hy
    rw [Array.toList_modify, List.getElem?_modify] at hk
    cases hg : es.toList[k]? with
    | none => simp [hg] at hk
    | some e' =>
      rw [hg] at hk
      split at hk <;> cases hk
      · rfl
      · exact h _ (List.mem_of_getElem? hg)
  | none =>
    rw [List.all_eq_true]
    simp only [Array.toList_push, List.mem_append, List.mem_singleton]
    rintro y (hy | rfl)
    · exact h y hy
    · rfl
theorem q_len_slice (t : TypeId) (a : Option Addr) (n c : Nat) : lenAV P st t (.v (.slice a n c)) = (tElem P t).map fun _ => .v (.int .i64 n) := nrfl _
theorem q_len_str (t : TypeId) (s : ByteArray) : lenAV P st t (.v (.string s)) = if tStr P t = true then some (.v (.int .i64 s.size)) else none := nrfl _
theorem q_min (k k' : IntKind) (x y : Int) : minAV (.v (.int k x)) (.v (.int k' y)) = some (.v (.int k (if y < x then y else x))) := nrfl _
theorem q_max (k k' : IntKind) (x y : Int) : maxAV (.v (.int k x)) (.v (.int k' y)) = some (.v (.int k (if x < y then y else x))) := nrfl _

theorem q_move (x : Operand) : evalV P st (.move x) = some (st.ev x) := nrfl _
theorem q_assign (x : Operand) : evalV P st (.assign x) = some (st.ev x) := nrfl _
theorem q_pick (c x y : Operand) (b : Bool) (h : st.ev c = .v (.bool b)) : evalV P st (.pick c x y) = some (if b = true then st.ev x else st.ev y) := by simp [evalV, h]
theorem q_load (t : TypeId) (x : Operand) : evalV P st (.load t x) = ldAV P st t (st.ev x) := nrfl _
theorem q_binOp (op : BinOp) (t : TypeId) (x y : Operand) (k : TypeId) : evalV P st (.binOp op t x y k) = binAV P op t (st.ev x) (st.ev y) := nrfl _
theorem q_unOp (op : UnOp) (t : TypeId) (x : Operand) : evalV P st (.unOp op t x) = unAV op (st.ev x) := nrfl _
theorem q_convert (s d : TypeId) (x : Operand) : evalV P st (.convert s d x) = if (P.underlying s).isSome then convAV P s d (st.ev x) else none := nrfl _
theorem q_makeFunc (f : Fn) (a b : Array Operand) : evalV P st (.makeFunc f a b) = some (.fn f (a.toList.map st.ev) (b.toList.map st.ev)) := nrfl _
theorem q_fieldAddr (t : TypeId) (x : Operand) (f : Nat) : evalV P st (.fieldAddr t x f) = fieldAddrAV P st t f (st.ev x) := nrfl _
theorem q_field (t : TypeId) (x : Operand) (f : Nat) : evalV P st (.field t x f) = fieldAV P t f (st.ev x) := nrfl _
theorem q_indexAddr (t : TypeId) (x i : Operand) : evalV P st (.indexAddr t x i) = indexAddrAV P st t (st.ev x) (st.ev i) := nrfl _
theorem q_index (t : TypeId) (x i : Operand) : evalV P st (.index t x i) = indexAV P t (st.ev x) (st.ev i) := nrfl _
theorem q_extract (x : Operand) (i : Nat) (cs : List AV) (h : st.ev x = .tup cs) : evalV P st (.extract x i) = cs[i]? := by simp [evalV, h]
theorem q_slice (t : TypeId) (x : Operand) (lo hi mx : Option Operand) : evalV P st (.slice t x lo hi mx) = sliceAV P st t lo hi mx (st.ev x) := nrfl _
theorem q_len (x : Operand) (t : TypeId) : evalV P st (.call { callee := .builtin .len, args := #[x], argTypes := #[t] }) = lenAV P st t (st.ev x) := nrfl _
theorem q_cmin (x y : Operand) (ts : Array TypeId) : evalV P st (.call { callee := .builtin .min, args := #[x, y], argTypes := ts }) = minAV (st.ev x) (st.ev y) := nrfl _
theorem q_cmax (x y : Operand) (ts : Array TypeId) : evalV P st (.call { callee := .builtin .max, args := #[x, y], argTypes := ts }) = maxAV (st.ev x) (st.ev y) := nrfl _
theorem q_ia_ref (t : TypeId) (j k : Nat) (kk : IntKind) (i : Int) (hk : k = st.ver j) : indexAddrAV P st t (.ref j k) (.v (.int kk i)) = onArr (st.h j) none fun _ sz xs => if ((tElem P t).bind (tSize P)) = some sz ∧ 0 ≤ i ∧ i < xs.length then some (.rptr j k i.toNat 0) else none := by
  simp only [indexAddrAV, hk, if_true]; cases st.h j <;> rfl
theorem q_field_agg (t : TypeId) (f : Nat) (cs : List AV) : fieldAV P t f (.agg cs) = match tField P t f with
    | some (off, u) => match tAgg P u, tSize P u with
      | some b, some m => if off + m ≤ cs.length then mkAV b ((cs.drop off).take m) else none
      | _, _ => none
    | none => none := nrfl _
theorem q_bound_none (d : Nat) : boundAV st d none = some d := nrfl _
theorem q_natOf (k : IntKind) (i : Int) : natOf (.v (.int k i)) = if 0 ≤ i then some i.toNat else none := nrfl _
theorem q_bound (d : Nat) (x : Operand) : boundAV st d (some x) = natOf (st.ev x) := by
  show (match st.ev x with
    | .v (.int _ i) => if 0 ≤ i then some i.toNat else none
    | _ => none) = natOf (st.ev x)
  generalize st.ev x = p
  cases p with
  | v y => cases y <;> rfl
  | _ => rfl
theorem q_src_lst (sz : Nat) (xs : List AV) : srcAV st sz (.lst sz xs) = some xs := by simp [srcAV]
theorem q_src_nil (sz : Nat) : srcAV st sz (.v (.slice none 0 0)) = some [] := nrfl _
theorem q_src_ref (sz i k : Nat) (hk : k = st.ver i) : srcAV st sz (.ref i k) = onArr (st.h i) none fun _ sz' xs => if sz' = sz then some xs else none := by
  simp only [srcAV, hk, if_true]; cases st.h i <;> rfl
theorem q_dest_nil (d e sz : Nat) : destAV st d e sz (.v (.slice none 0 0)) = some (d, []) := nrfl _
theorem q_dest_ref (d e sz i k : Nat) (hk : k = st.ver i) : destAV st d e sz (.ref i k) = onArr (st.h i) none fun e' sz' xs => if e' = e ∧ sz' = sz then some (i, xs) else none := by
  simp only [destAV, hk, if_true]; cases st.h i <;> rfl

theorem q_ldAV (t : TypeId) (x : AV) : ldAV P st t x = (tAgg P t).bind fun b => (tSize P t).bind fun m => (ldCells st m x).bind (mkAV b) := by
  unfold ldAV
  cases tAgg P t <;> cases tSize P t <;> rfl
theorem q_sl_lst (t : TypeId) (lo hi : Option Operand) (sz : Nat) (xs : List AV) : sliceAV P st t lo hi none (.lst sz xs) = if ((tElem P t).bind (tSize P)) = some sz then
    (boundAV st 0 lo).bind fun l => (boundAV st xs.length hi).bind fun h => if l ≤ h ∧ h ≤ xs.length then some (.lst sz ((xs.drop l).take (h - l))) else none else none := by
  simp only [sliceAV]
  split
  · cases boundAV st 0 lo <;> cases boundAV st xs.length hi <;> rfl
  · rfl
theorem q_sl_full (t : TypeId) (lo : Option Operand) (h' m' : Operand) (sz : Nat) (xs : List AV) : sliceAV P st t lo (some h') (some m') (.lst sz xs) = if ((tElem P t).bind (tSize P)) = some sz then
    (boundAV st 0 lo).bind fun l => (boundAV st xs.length (some h')).bind fun h => if l ≤ h ∧ h ≤ xs.length then (boundAV st 0 (some m')).bind fun m => if h ≤ m ∧ m ≤ xs.length then some (if m = h then .full sz ((xs.drop l).take (h - l)) else .lst sz ((xs.drop l).take (h - l))) else none else none else none := by
  simp only [sliceAV]
  split
  · cases boundAV st 0 lo <;> cases boundAV st xs.length (some h') <;> first | rfl | skip
    simp only [Option.bind_some]
    split
    · cases boundAV st 0 (some m') <;> rfl
    · rfl
  · rfl
theorem q_sl_str (t : TypeId) (lo hi : Option Operand) (s : ByteArray) : sliceAV P st t lo hi none (.v (.string s)) = if tStr P t = true then
    (boundAV st 0 lo).bind fun l => (boundAV st s.size hi).bind fun h => if l ≤ h ∧ h ≤ s.size then some (.v (.string (s.extract l h))) else none else none := by
  simp only [sliceAV, Option.isNone_none, and_true]
  split
  · cases boundAV st 0 lo <;> cases boundAV st s.size hi <;> rfl
  · rfl
theorem q_litAV (t : TypeId) (n : Nat) (ps : Array (Nat × Operand)) : litAV P st t n ps = (tElem P t).bind fun e => (tSize P e).bind fun sz =>
    if (ps.toList.map (·.1)) = List.range n ∧ ((evParts st ps).all fun x => okCells st x.2 && x.2.cells.length == sz) = true ∧ (n * sz ≤ 16777216 ∧ n ≤ 16777216) ∧ (tZero P e).map (·.cells.size) = some sz then some (e, sz, (evParts st ps).map (·.2)) else none := by
  unfold litAV
  cases tElem P t with
  | none => rfl
  | some e => cases h : tSize P e <;> simp only [Option.bind_some, h] <;> rfl
theorem q_buildAV (t : TypeId) (ps : Array (Nat × Operand)) (pl : List (Nat × Nat)) (h : tPlaces P t = some pl) : buildAV P st t ps = if (evParts st ps).all (fun x => okCells st x.2) = true then
    (tZero P t).bind fun z => (fillL (fun i => pl[i]?) (valCells z) (evParts st ps)).map .agg else none := by
  simp only [buildAV, h]
  split
  · cases tZero P t <;> rfl
  · rfl
theorem q_store (t : TypeId) (i k n j : Nat) (q : AV) (hk : k = st.ver i) : storeSt P st t (.rptr i k n j) q = if tSize P t = some q.cells.length ∧ okCells st q = true then onBlk (st.h i) none (fun e sz xs => (xs[n]?).bind fun x => if j = 0 ∧ q.cells.length = sz then some (st.setH i (.arr e sz (xs.set n q))) else match x with
    | .agg cs => if j + q.cells.length ≤ cs.length then some (st.setH i (.arr e sz (xs.set n (.agg (spliceL cs j q.cells))))) else none
    | _ => none) (fun cs => if n = 0 ∧ j + q.cells.length ≤ cs.length then some (st.setH i (.box (spliceL cs j q.cells))) else none) else none := by
  simp only [storeSt, hk, true_and, St.setH]
  split
  · cases st.h i with
    | arr e sz xs => simp only [onBlk]; cases xs[n]? <;> rfl
    | _ => rfl
  · rfl

/-- May these all be appended? -/
def okAll (st : St) (ys : List AV) : Prop := ∀ c ∈ ys, okCells st c = true
theorem q_okAll_nil : okAll st [] = True := eq_true fun _ h => by cases h
theorem q_okAll_cons (y : AV) (ys : List AV) : okAll st (y :: ys) = (okCells st y = true ∧ okAll st ys) := by
  simp only [okAll, List.mem_cons, forall_eq_or_imp]
theorem q_okAll_append (ys zs : List AV) : okAll st (ys ++ zs) = (okAll st ys ∧ okAll st zs) := by
  simp only [okAll, List.mem_append, or_imp, forall_and]
theorem q_okAll_take (n : Nat) (ys : List AV) (h : okAll st ys) : okAll st (ys.take n) := fun c hc => h c (List.mem_of_mem_take hc)
theorem q_okAll_drop (n : Nat) (ys : List AV) (h : okAll st ys) : okAll st (ys.drop n) := fun c hc => h c (List.mem_of_mem_drop hc)

theorem q_out_v (x : Value) : outAV st (.v x) = some (.v x) := nrfl _
theorem q_out_agg (cs : List AV) : outAV st (.agg cs) = some (.agg cs) := nrfl _
theorem q_out_tup (cs : List AV) : outAV st (.tup cs) = some (.tup cs) := nrfl _
theorem q_out_lst (sz : Nat) (xs : List AV) : outAV st (.lst sz xs) = some (.lst sz xs) := nrfl _
theorem q_out_eptr (cs : List AV) (j : Nat) : outAV st (.eptr cs j) = some (.eptr cs j) := nrfl _
theorem q_out_fn (f : Fn) (a b : List AV) : outAV st (.fn f a b) = some (.fn f a b) := nrfl _
theorem q_out_ref (i k : Nat) (hk : k = st.ver i) : outAV st (.ref i k) = onArr (st.h i) none fun e sz xs => some (.fresh e sz xs) := by
  simp only [outAV, hk, if_true]; cases st.h i <;> rfl
theorem q_res_tmp (t : Tmp) : resAV P st (.tmp t) = some (st.σ t) := nrfl _
theorem q_res_cell (p : Tmp) (t : TypeId) : resAV P st (.cell p t) = ldAV P st t (st.σ p) := nrfl _
theorem q_result0 : resultAV P st [] = some (.tup []) := by simp [resultAV]
/-- The result of one variable. -/
def out1 (st : St) : AV → Option AV
  | .tup _ => none
  | r => outAV st r
theorem q_o1_v (x : Value) : out1 st (.v x) = some (.v x) := nrfl _
theorem q_o1_agg (cs : List AV) : out1 st (.agg cs) = some (.agg cs) := nrfl _
theorem q_o1_lst (sz : Nat) (xs : List AV) : out1 st (.lst sz xs) = some (.lst sz xs) := nrfl _
theorem q_o1_fn (f : Fn) (a b : List AV) : out1 st (.fn f a b) = some (.fn f a b) := nrfl _
theorem q_o1_ref (i k : Nat) (hk : k = st.ver i) : out1 st (.ref i k) = onArr (st.h i) none fun e sz xs => some (.fresh e sz xs) := q_out_ref _ _ hk
theorem q_o1_mapv (es : Array MapEntry) (clk : Nat) : out1 st (.mapv es clk) = some (.mapv es clk) := nrfl _
theorem q_result1 (v : ResultVar) : resultAV P st [v] = (resAV P st v).bind (out1 st) := by
  simp only [resultAV]; congr 1
def refs : List AV → List Nat
  | [] => []
  | p :: ps => match refId p with
    | some i => i :: refs ps
    | none => refs ps
theorem refs_eq : ∀ l : List AV, l.filterMap refId = refs l
  | [] => rfl
  | p :: l => by
    rw [List.filterMap_cons, refs, refs_eq l]
    cases refId p <;> rfl
theorem q_result2 (v w : ResultVar) : resultAV P st [v, w] = (resAV P st v).bind fun a => (resAV P st w).bind fun b => if (refs [a, b]).Nodup then (outAV st a).bind fun a => (outAV st b).map fun b => .tup [a, b] else none := by
  simp only [resultAV, List.mapM_cons, List.mapM_nil, Option.bind_eq_bind, Option.pure_def]
  cases resAV P st v with
  | none => rfl
  | some a =>
    cases resAV P st w with
    | none => rfl
    | some b =>
      simp only [Option.bind_some, refs_eq]
      split
      · cases h1 : outAV st a <;> cases h2 : outAV st b <;> simp [List.mapM_cons, h1, h2]
      · rfl
theorem q_refs_nil : refs [] = [] := nrfl _
theorem q_refs_v (x : Value) (l : List AV) : refs (.v x :: l) = refs l := nrfl _
theorem q_refs_agg (cs : List AV) (l : List AV) : refs (.agg cs :: l) = refs l := nrfl _
theorem q_refs_lst (sz : Nat) (xs : List AV) (l : List AV) : refs (.lst sz xs :: l) = refs l := nrfl _
theorem q_refs_ref (i k : Nat) (l : List AV) : refs (.ref i k :: l) = i :: refs l := nrfl _

theorem q_take_v (d : Nat) (x : Value) : St.take d (.v x) st = (st, .v x) := nrfl _
theorem q_take_agg (d : Nat) (cs : List AV) : St.take d (.agg cs) st = (st, .agg cs) := nrfl _
theorem q_take_full (d sz : Nat) (xs : List AV) : St.take d (.full sz xs) st = (st, .full sz xs) := nrfl _
theorem q_take_lst (d sz : Nat) (xs : List AV) : St.take d (.lst sz xs) st = (st, .lst sz xs) := nrfl _
theorem q_take_eptr (d j : Nat) (cs : List AV) : St.take d (.eptr cs j) st = (st, .eptr cs j) := nrfl _
theorem q_take_fn (d : Nat) (f : Fn) (a b : List AV) : St.take d (.fn f a b) st = (st, .fn f a b) := nrfl _
theorem q_take_fresh (d e sz : Nat) (xs : List AV) : St.take d (.fresh e sz xs) st = (st.setArr d e sz xs, .ref d (st.ver d + 1)) := nrfl _
theorem q_take_tup (d : Nat) (rs : List AV) : St.take d (.tup rs) st = ((St.takeComps d 0 rs st).1, .tup (St.takeComps d 0 rs st).2) := nrfl _
theorem q_tc_nil (d i : Nat) : St.takeComps d i [] st = (st, []) := nrfl _
theorem q_tc_fresh (d i e sz : Nat) (xs rs : List AV) : St.takeComps d i (.fresh e sz xs :: rs) st = ((St.takeComps d (i + 1) rs (st.setArr (compId d i) e sz xs)).1, .ref (compId d i) (st.ver (compId d i) + 1) :: (St.takeComps d (i + 1) rs (st.setArr (compId d i) e sz xs)).2) := nrfl _
theorem q_tc_v (d i : Nat) (x : Value) (rs : List AV) : St.takeComps d i (.v x :: rs) st = ((St.takeComps d (i + 1) rs st).1, .v x :: (St.takeComps d (i + 1) rs st).2) := nrfl _
theorem q_tc_agg (d i : Nat) (cs : List AV) (rs : List AV) : St.takeComps d i (.agg cs :: rs) st = ((St.takeComps d (i + 1) rs st).1, .agg cs :: (St.takeComps d (i + 1) rs st).2) := nrfl _
theorem q_tc_lst (d i sz : Nat) (xs : List AV) (rs : List AV) : St.takeComps d i (.lst sz xs :: rs) st = ((St.takeComps d (i + 1) rs st).1, .lst sz xs :: (St.takeComps d (i + 1) rs st).2) := nrfl _

theorem q_bo_v (x : Value) : borrow st (.v x) = .v x := nrfl _
theorem q_bo_agg (cs : List AV) : borrow st (.agg cs) = .agg cs := nrfl _
theorem q_bo_lst (sz : Nat) (xs : List AV) : borrow st (.lst sz xs) = .lst sz xs := nrfl _
theorem q_bo_eptr (cs : List AV) (j : Nat) : borrow st (.eptr cs j) = .eptr cs j := nrfl _
theorem q_bo_ref (i k : Nat) (hk : k = st.ver i) : borrow st (.ref i k) = onRef (st.h i) .junk (fun _ sz xs => .lst sz xs) (fun es clk => .mapv es clk) := by
  simp only [borrow, borrow1, borrow0, hk, if_true]; cases st.h i <;> rfl
theorem q_fz_v (x : Value) : fz st id (.v x) = .v x := nrfl _
theorem q_fz_full (sz : Nat) (xs : List AV) : fz st id (.full sz xs) = .full sz xs := nrfl _
theorem q_fz_lst (sz : Nat) (xs : List AV) : fz st id (.lst sz xs) = .lst sz xs := nrfl _
theorem q_fz_eptr (cs : List AV) (j : Nat) : fz st id (.eptr cs j) = .eptr cs j := nrfl _
theorem q_fz_tup (cs : List AV) : fz st id (.tup cs) = .tup cs := nrfl _
theorem q_fz_junk : fz st id .junk = .junk := nrfl _
theorem q_fz_ref (i k : Nat) : fz st id (.ref i k) = fz0 st id (.ref i k) := nrfl _
theorem q_fz_rptr (i k n j : Nat) : fz st id (.rptr i k n j) = fz0 st id (.rptr i k n j) := nrfl _
theorem q_fz_agg (cs : List AV) : fz st id (.agg cs) = .agg (cs.map (fz0 st id)) := nrfl _
theorem q_fz_fn (f : Fn) (a b : List AV) : fz st id (.fn f a b) = .fn f (a.map (fz0 st id)) (b.map (fz0 st id)) := nrfl _
theorem q_fz0_v (x : Value) : fz0 st id (.v x) = .v x := nrfl _
theorem q_fz0_lst (sz : Nat) (xs : List AV) : fz0 st id (.lst sz xs) = .lst sz xs := nrfl _
theorem q_fz0_eptr (cs : List AV) (j : Nat) : fz0 st id (.eptr cs j) = .eptr cs j := nrfl _
theorem q_fz0_same (k : Nat) (hk : k = st.ver id) : fz0 st id (.ref id k) = onRef (st.h id) (.ref id k) (fun _ sz xs => .lst sz xs) (fun es clk => .mapv es clk) := by
  simp only [fz0, hk, and_self, if_true]; cases st.h id <;> rfl
theorem q_fz0_other (i k : Nat) (hi : i ≠ id) : fz0 st id (.ref i k) = .ref i k := by simp [fz0, hi]
theorem q_fz0_rother (i k n j : Nat) (hi : i ≠ id) : fz0 st id (.rptr i k n j) = .rptr i k n j := by simp [fz0, hi]
theorem q_fz0_box (k n j : Nat) (hk : k = st.ver id) : fz0 st id (.rptr id k n j) = onBlk (st.h id) (.rptr id k n j) (fun _ _ xs => (xs[n]?).elim (.rptr id k n j) fun x => .eptr x.cells j) (fun cs => if n = 0 then .eptr cs j else .rptr id k n j) := by
  simp only [fz0, hk, and_self, if_true]
  cases st.h id with
  | arr e sz xs => simp only [onBlk]; cases xs[n]? <;> rfl
  | _ => rfl
theorem q_fz_mapv (es : Array MapEntry) (clk : Nat) : fz st id (.mapv es clk) = .mapv es clk := nrfl _
theorem q_fz0_mapv (es : Array MapEntry) (clk : Nat) : fz0 st id (.mapv es clk) = .mapv es clk := nrfl _
theorem q_bo_mapv (es : Array MapEntry) (clk : Nat) : borrow st (.mapv es clk) = .mapv es clk := nrfl _
theorem q_out_mapv (es : Array MapEntry) (clk : Nat) : outAV st (.mapv es clk) = some (.mapv es clk) := nrfl _
theorem q_take_mapv (d : Nat) (es : Array MapEntry) (clk : Nat) : St.take d (.mapv es clk) st = (st, .mapv es clk) := nrfl _
theorem q_cells_mapv (es : Array MapEntry) (clk : Nat) : (AV.mapv es clk).cells = [.mapv es clk] := nrfl _
theorem q_fzB_map (es : Array MapEntry) (clk : Nat) : fzB st id (.map es clk) = .map es clk := nrfl _
theorem q_fzB_obj (x : Obj) : fzB st id (.obj x) = .obj x := nrfl _
theorem q_fzB_none : fzB st id .none = .none := nrfl _
theorem q_fzB_arr (e sz : Nat) (xs : List AV) : fzB st id (.arr e sz xs) = .arr e sz xs := nrfl _
theorem q_fzB_box (cs : List AV) : fzB st id (.box cs) = .box (cs.map (fz st id)) := nrfl _
theorem q_nf_v (x : Value) : noFresh (.v x) = true := nrfl _
theorem q_nf_agg (cs : List AV) : noFresh (.agg cs) = true := nrfl _
theorem q_nf_lst (sz : Nat) (xs : List AV) : noFresh (.lst sz xs) = true := nrfl _

end
section
variable {G : Ctx} {own : List Nat} {st : St} {K : St → Prop} {KA : AV → Prop} {Q : Exit → St → Prop} {QS : St → Prop} {ops : Array Oper} {dst : Option Tmp} {ty : TypeId} {po : String} {af : Array Edge} {gd : Option (Nat × Bool)}

theorem w_move (x : Operand) : vcOp G own K ⟨dst, .move x, ty, po, af, gd⟩ st = bindP (evalV G.P st (.move x)) fun r => K (st.put dst r) := nrfl _
theorem c_move (x : Operand) : calmThen G ⟨dst, .move x, ty, po, af, gd⟩ KA st = bindP (evalV G.P st (.move x)) KA := nrfl _
theorem w_assign (x : Operand) : vcOp G own K ⟨dst, .assign x, ty, po, af, gd⟩ st = bindP (evalV G.P st (.assign x)) fun r => K (st.put dst r) := nrfl _
theorem c_assign (x : Operand) : calmThen G ⟨dst, .assign x, ty, po, af, gd⟩ KA st = bindP (evalV G.P st (.assign x)) KA := nrfl _
theorem w_pick (c x y : Operand) : vcOp G own K ⟨dst, .pick c x y, ty, po, af, gd⟩ st = bindP (evalV G.P st (.pick c x y)) fun r => K (st.put dst r) := nrfl _
theorem c_pick (c x y : Operand) : calmThen G ⟨dst, .pick c x y, ty, po, af, gd⟩ KA st = bindP (evalV G.P st (.pick c x y)) KA := nrfl _
theorem w_load (t : TypeId) (x : Operand) : vcOp G own K ⟨dst, .load t x, ty, po, af, gd⟩ st = bindP (evalV G.P st (.load t x)) fun r => K (st.put dst r) := nrfl _
theorem c_load (t : TypeId) (x : Operand) : calmThen G ⟨dst, .load t x, ty, po, af, gd⟩ KA st = bindP (evalV G.P st (.load t x)) KA := nrfl _
theorem w_unOp (op : UnOp) (t : TypeId) (x : Operand) : vcOp G own K ⟨dst, .unOp op t x, ty, po, af, gd⟩ st = bindP (evalV G.P st (.unOp op t x)) fun r => K (st.put dst r) := nrfl _
theorem c_unOp (op : UnOp) (t : TypeId) (x : Operand) : calmThen G ⟨dst, .unOp op t x, ty, po, af, gd⟩ KA st = bindP (evalV G.P st (.unOp op t x)) KA := nrfl _
theorem w_convert (t u : TypeId) (x : Operand) : vcOp G own K ⟨dst, .convert t u x, ty, po, af, gd⟩ st = bindP (evalV G.P st (.convert t u x)) fun r => K (st.put dst r) := nrfl _
theorem c_convert (t u : TypeId) (x : Operand) : calmThen G ⟨dst, .convert t u x, ty, po, af, gd⟩ KA st = bindP (evalV G.P st (.convert t u x)) KA := nrfl _
theorem w_makeFunc (f : Fn) (as' bs : Array Operand) : vcOp G own K ⟨dst, .makeFunc f as' bs, ty, po, af, gd⟩ st = bindP (evalV G.P st (.makeFunc f as' bs)) fun r => K (st.put dst r) := nrfl _
theorem c_makeFunc (f : Fn) (as' bs : Array Operand) : calmThen G ⟨dst, .makeFunc f as' bs, ty, po, af, gd⟩ KA st = bindP (evalV G.P st (.makeFunc f as' bs)) KA := nrfl _
theorem w_fieldAddr (t : TypeId) (x : Operand) (n : Nat) : vcOp G own K ⟨dst, .fieldAddr t x n, ty, po, af, gd⟩ st = bindP (evalV G.P st (.fieldAddr t x n)) fun r => K (st.put dst r) := nrfl _
theorem c_fieldAddr (t : TypeId) (x : Operand) (n : Nat) : calmThen G ⟨dst, .fieldAddr t x n, ty, po, af, gd⟩ KA st = bindP (evalV G.P st (.fieldAddr t x n)) KA := nrfl _
theorem w_field (t : TypeId) (x : Operand) (n : Nat) : vcOp G own K ⟨dst, .field t x n, ty, po, af, gd⟩ st = bindP (evalV G.P st (.field t x n)) fun r => K (st.put dst r) := nrfl _
theorem c_field (t : TypeId) (x : Operand) (n : Nat) : calmThen G ⟨dst, .field t x n, ty, po, af, gd⟩ KA st = bindP (evalV G.P st (.field t x n)) KA := nrfl _
theorem w_indexAddr (t : TypeId) (x i : Operand) : vcOp G own K ⟨dst, .indexAddr t x i, ty, po, af, gd⟩ st = bindP (evalV G.P st (.indexAddr t x i)) fun r => K (st.put dst r) := nrfl _
theorem c_indexAddr (t : TypeId) (x i : Operand) : calmThen G ⟨dst, .indexAddr t x i, ty, po, af, gd⟩ KA st = bindP (evalV G.P st (.indexAddr t x i)) KA := nrfl _
theorem w_index (t : TypeId) (x i : Operand) : vcOp G own K ⟨dst, .index t x i, ty, po, af, gd⟩ st = bindP (evalV G.P st (.index t x i)) fun r => K (st.put dst r) := nrfl _
theorem c_index (t : TypeId) (x i : Operand) : calmThen G ⟨dst, .index t x i, ty, po, af, gd⟩ KA st = bindP (evalV G.P st (.index t x i)) KA := nrfl _
theorem w_lookup (t : TypeId) (m k : Operand) (ok : Bool) : vcOp G own K ⟨dst, .lookup t m k ok, ty, po, af, gd⟩ st = bindP (evalV G.P st (.lookup t m k ok)) fun r => K (st.put dst r) := nrfl _
theorem c_lookup (t : TypeId) (m k : Operand) (ok : Bool) : calmThen G ⟨dst, .lookup t m k ok, ty, po, af, gd⟩ KA st = bindP (evalV G.P st (.lookup t m k ok)) KA := nrfl _
theorem w_makeMap (d : Tmp) (t : TypeId) (r : Option Operand) : vcOp G own K ⟨some d, .makeMap t r, ty, po, af, gd⟩ st = ((tMap G.P t).isSome = true ∧ hintOK st r ∧ K ((st.setMap (G.ids d) #[] 0).put (some d) (.ref (G.ids d) (st.ver (G.ids d) + 1)))) := nrfl _
theorem w_mapUpdate (t : TypeId) (m k x : Operand) : vcOp G own K ⟨dst, .mapUpdate t m k x, ty, po, af, gd⟩ st = bindP (tMap G.P t) fun y => onKeyQ (st.ev k) (fun q => q.okT G.P y.1 = true ∧ onMap st (st.ev m) fun id es clk => qM es q = true ∧ onVal (st.ev x) fun v => K ((st.setH id (.map (qput es clk q v).1 (qput es clk q v).2)).put dst .junk)) (tInt G.P y.1 = some .i64 ∧ onMap st (st.ev m) fun id es clk => intM es = true ∧ onKey (st.ev k) (st.ev x) fun n v => K ((st.setH id (.map (mput es clk n v).1 (mput es clk n v).2)).put dst .junk)) := nrfl _
theorem w_clear (x : Operand) (t : TypeId) : vcOp G own K ⟨dst, .call { callee := .builtin .clear, args := #[x], argTypes := #[t] }, ty, po, af, gd⟩ st = onOslC st (st.ev x) (fun id e sz xs lo hi => tElem G.P t = some e ∧ bindP (tZero G.P e) fun z => (z.cells.toList.all (·.oneCell') = true ∧ z.cells.size = sz ∧ 0 < sz) ∧
          K ((st.setH id (.arr e sz (xs.take lo ++ List.replicate (hi - lo) (.agg (valCells z)) ++ xs.drop hi))).put dst (.tup [])))
        ((tMap G.P t).isSome = true ∧ onMap st (st.ev x) fun id _ clk => K ((st.setH id (.map #[] clk)).put dst (.tup []))) := nrfl _
theorem w_extract (x : Operand) (i : Nat) : vcOp G own K ⟨dst, .extract x i, ty, po, af, gd⟩ st = bindP (evalV G.P st (.extract x i)) fun r => K (st.put dst r) := nrfl _
theorem c_extract (x : Operand) (i : Nat) : calmThen G ⟨dst, .extract x i, ty, po, af, gd⟩ KA st = bindP (evalV G.P st (.extract x i)) KA := nrfl _
theorem w_slice (t : TypeId) (x : Operand) (lo hi mx : Option Operand) : vcOp G own K ⟨dst, .slice t x lo hi mx, ty, po, af, gd⟩ st = onRptr (st.ev x) (fun id => bindP (evalV G.P (st.freeze id) (.slice t x lo hi mx)) fun r => K ((st.freeze id).put dst r)) (bindP (evalV G.P st (.slice t x lo hi mx)) fun r => K (st.put dst r)) := nrfl _
theorem q_onRptr_r (id k i j : Nat) (a : Nat → Prop) (b : Prop) : onRptr (.rptr id k i j) a b = a id := nrfl _
theorem q_onRptr_v (x : Value) (a : Nat → Prop) (b : Prop) : onRptr (.v x) a b = b := nrfl _
theorem q_onRptr_l (sz : Nat) (xs : List AV) (a : Nat → Prop) (b : Prop) : onRptr (.lst sz xs) a b = b := nrfl _
theorem q_onRptr_f (id k : Nat) (a : Nat → Prop) (b : Prop) : onRptr (.ref id k) a b = b := nrfl _
theorem q_onRptr_m (es : Array MapEntry) (clk : Nat) (a : Nat → Prop) (b : Prop) : onRptr (.mapv es clk) a b = b := nrfl _
theorem q_onRptr_e (cs : List AV) (j : Nat) (a : Nat → Prop) (b : Prop) : onRptr (.eptr cs j) a b = b := nrfl _
theorem c_slice (t : TypeId) (x : Operand) (lo hi mx : Option Operand) : calmThen G ⟨dst, .slice t x lo hi mx, ty, po, af, gd⟩ KA st = bindP (evalV G.P st (.slice t x lo hi mx)) KA := nrfl _
theorem w_clen (xs : Array Operand) (ts : Array TypeId) : vcOp G own K ⟨dst, .call { callee := .builtin .len, args := xs, argTypes := ts }, ty, po, af, gd⟩ st = bindP (evalV G.P st (.call { callee := .builtin .len, args := xs, argTypes := ts })) fun r => K (st.put dst r) := nrfl _
theorem w_cmin (xs : Array Operand) (ts : Array TypeId) : vcOp G own K ⟨dst, .call { callee := .builtin .min, args := xs, argTypes := ts }, ty, po, af, gd⟩ st = bindP (evalV G.P st (.call { callee := .builtin .min, args := xs, argTypes := ts })) fun r => K (st.put dst r) := nrfl _
theorem w_cmax (xs : Array Operand) (ts : Array TypeId) : vcOp G own K ⟨dst, .call { callee := .builtin .max, args := xs, argTypes := ts }, ty, po, af, gd⟩ st = bindP (evalV G.P st (.call { callee := .builtin .max, args := xs, argTypes := ts })) fun r => K (st.put dst r) := nrfl _
theorem c_clen (xs : Array Operand) (ts : Array TypeId) : calmThen G ⟨dst, .call { callee := .builtin .len, args := xs, argTypes := ts }, ty, po, af, gd⟩ KA st = bindP (evalV G.P st (.call { callee := .builtin .len, args := xs, argTypes := ts })) KA := nrfl _
theorem w_call (f : Operand) (xs : Array Operand) (ts : Array TypeId) : vcOp G own K ⟨dst, .call { callee := .value f, args := xs, argTypes := ts }, ty, po, af, gd⟩ st = onFn2 (st.ev f) (fun g first captured => CallSem G g (first ++ (xs.toList.map st.ev ++ captured)) dst K st) (fun l => YieldSem G l (xs.toList.map st.ev) dst K st) := nrfl _
theorem c_call (f : Operand) (xs : Array Operand) (ts : Array TypeId) : calmThen G ⟨dst, .call { callee := .value f, args := xs, argTypes := ts }, ty, po, af, gd⟩ KA st = onFn (st.ev f) fun g first captured => CalmThen G g (first ++ (xs.toList.map st.ev ++ captured)) KA st := nrfl _
theorem c_binOp (op : BinOp) (t u : TypeId) (x y : Operand) : calmThen G ⟨dst, .binOp op t x y u, ty, po, af, gd⟩ KA st = bindP (evalV G.P st (.binOp op t x y u)) KA := nrfl _
theorem c_box (t : TypeId) (x : Operand) : calmThen G ⟨dst, .box t x, ty, po, af, gd⟩ KA st = bindP (if dst.isSome = true ∧ okCells st (st.ev x) = true then some (.eptr (st.ev x).cells 0) else none) KA := nrfl _
theorem c_build (t : TypeId) (ps : Array (Nat × Operand)) : calmThen G ⟨dst, .build t ps, ty, po, af, gd⟩ KA st = bindP (buildAV G.P st t ps) KA := nrfl _
theorem c_buildSlice (t : TypeId) (n : Nat) (ps : Array (Nat × Operand)) : calmThen G ⟨dst, .buildSlice t n ps, ty, po, af, gd⟩ KA st = bindP (if dst.isSome = true then (litAV G.P st t n ps).map fun x => .lst x.2.1 x.2.2 else none) KA := nrfl _
theorem w_alloc (d : Tmp) (t : TypeId) : vcOp G own K ⟨some d, .alloc t, ty, po, af, gd⟩ st = bindP (tZero G.P t) fun z => (valCells z).all (okCell st) = true ∧ K ((st.setBox (G.ids d) (valCells z)).put (some d) (.rptr (G.ids d) (st.ver (G.ids d) + 1) 0 0)) := nrfl _
theorem w_box (d : Tmp) (t : TypeId) (x : Operand) : vcOp G own K ⟨some d, .box t x, ty, po, af, gd⟩ st = (okCells st (st.ev x) = true ∧ if d ∈ own then K ((st.setBox (G.ids d) (st.ev x).cells).put (some d) (.rptr (G.ids d) (st.ver (G.ids d) + 1) 0 0)) else K (st.put (some d) (.eptr (st.ev x).cells 0))) := nrfl _
theorem w_build (t : TypeId) (ps : Array (Nat × Operand)) : vcOp G own K ⟨dst, .build t ps, ty, po, af, gd⟩ st = bindP (buildAV G.P st t ps) fun r => K (st.put dst r) := nrfl _
theorem w_buildSlice (d : Tmp) (t : TypeId) (n : Nat) (ps : Array (Nat × Operand)) : vcOp G own K ⟨some d, .buildSlice t n ps, ty, po, af, gd⟩ st = bindP (litAV G.P st t n ps) fun x => if d ∈ own then K ((st.setArr (G.ids d) x.1 x.2.1 x.2.2).put (some d) (.ref (G.ids d) (st.ver (G.ids d) + 1))) else K (st.put (some d) (.lst x.2.1 x.2.2)) := nrfl _
theorem w_binOp (op : BinOp) (t u : TypeId) (x y : Operand) : vcOp G own K ⟨dst, .binOp op t x y u, ty, po, af, gd⟩ st = onNil (nilSrc st (st.ev x))
      (fun xs => st.ev y = .v (.slice none 0 0) ∧ (tElem G.P t).isSome = true ∧ ((op = .eql ∧ ∀ b : Bool, (b = true → xs = []) → K (st.put dst (.v (.bool b)))) ∨ (op = .neq ∧ ∀ b : Bool, (b = false → xs = []) → K (st.put dst (.v (.bool b))))))
      (bindP (evalV G.P st (.binOp op t x y u)) fun r => K (st.put dst r)) := rfl
theorem w_make (d : Tmp) (t : TypeId) (l c : Operand) : vcOp G own K ⟨some d, .makeSlice t l c, ty, po, af, gd⟩ st = bindP (tElem G.P t) fun e => bindP (tSize G.P e) fun sz => bindP (tBytes G.P e) fun bytes => bindP (tZero G.P e) fun z => bindP (natOf (st.ev c)) fun C => bindP (natOf (st.ev l)) fun L => ((L = 0 ∨ (L = C ∧ sz = 1 ∧ z.oneCell' = true)) ∧ bytes * C ≤ 281474976710656 ∧ C ≤ 281474976710656) ∧ K ((st.setArr (G.ids d) e sz (List.replicate L (.v z))).put (some d) (.ref (G.ids d) (st.ver (G.ids d) + 1))) := nrfl _
theorem w_store (t : TypeId) (p x : Operand) : vcOp G own K ⟨dst, .store t p x, ty, po, af, gd⟩ st = bindP (storeSt G.P st t (st.ev p) (st.ev x)) fun st' => K (st'.put dst .junk) := nrfl _
theorem w_append (d : Tmp) (t t' : TypeId) (p q : Operand) : vcOp G own K ⟨some d, .call { callee := .builtin .append, args := #[p, q], argTypes := #[t, t'] }, ty, po, af, gd⟩ st = (t' = t ∧ bindP (tElem G.P t) fun e => bindP (tSize G.P e) fun sz => bindP (tBytes G.P e) fun bytes => ((tZero G.P e).map (·.cells.size) = some sz ∧ 0 < sz) ∧
          onFull (fullOf (st.ev p)) (fun sz' xs => sz' = sz ∧ bindP (srcAV st sz (st.ev q)) fun ys => (okAll st ys ∧ (xs.length + ys.length) * bytes ≤ 140737488355328 ∧ xs.length + ys.length ≤ 140737488355328) ∧
            (ys = [] → K (st.put (some d) (.lst sz xs))) ∧ (ys ≠ [] → K ((st.setArr (G.ids d) e sz (xs ++ ys)).put (some d) (.ref (G.ids d) (st.ver (G.ids d) + 1)))))
          (onOsl (oslOf st (st.ev p)) (fun id e' sz' xs lo hi => (e' = e ∧ sz' = sz) ∧ bindP (srcAV st sz (st.ev q)) fun ys => (okAll st ys ∧ (hi - lo + ys.length) * bytes ≤ 140737488355328 ∧ hi - lo + ys.length ≤ 140737488355328) ∧
            (ys = [] → lo = 0 ∧ K ((st.setArr id e sz (xs.take hi)).put (some d) (.ref id (st.ver id + 1)))) ∧ (ys ≠ [] → K ((st.setArr (G.ids d) e sz ((xs.drop lo).take (hi - lo) ++ ys)).put (some d) (.ref (G.ids d) (st.ver (G.ids d) + 1)))))
          (bindP (destAV st (G.ids d) e sz (st.ev p)) fun dx => bindP (srcAV st sz (st.ev q)) fun ys => (okAll st ys ∧ (dx.2.length + ys.length) * bytes ≤ 140737488355328 ∧ dx.2.length + ys.length ≤ 140737488355328) ∧
          K ((st.setArr dx.1 e sz (dx.2 ++ ys)).put (some d) (.ref dx.1 (st.ver dx.1 + 1)))))) := rfl
theorem q_oslOf_v (x : Value) : oslOf st (.v x) = none := nrfl _
theorem q_oslOf_ref (i k : Nat) : oslOf st (.ref i k) = none := nrfl _
theorem q_oslOf_lst (sz : Nat) (xs : List AV) : oslOf st (.lst sz xs) = none := nrfl _
theorem q_oslOf_osl (i k lo hi : Nat) (hk : k = st.ver i) : oslOf st (.osl i k lo hi true) = onArr (st.h i) none fun e sz xs => if lo ≤ hi ∧ hi ≤ xs.length then some (i, e, sz, xs, lo, hi) else none := by
  simp only [oslOf, hk, if_true]; cases st.h i <;> rfl
theorem q_fullOf_osl (i k lo hi : Nat) (f : Bool) : fullOf (.osl i k lo hi f) = none := nrfl _
theorem q_src_osl (sz i k lo hi : Nat) (f : Bool) (hk : k = st.ver i) : srcAV st sz (.osl i k lo hi f) = onArr (st.h i) none fun _ sz' xs => if sz' = sz ∧ lo ≤ hi ∧ hi ≤ xs.length then some ((xs.drop lo).take (hi - lo)) else none := by
  simp only [srcAV, hk, if_true]; cases st.h i <;> rfl
theorem q_sl_ref (P : Program) (t : TypeId) (lo hi : Option Operand) (i k : Nat) (hk : k = st.ver i) : sliceAV P st t lo hi none (.ref i k) = onArr (st.h i) none fun _ sz xs => if ((tElem P t).bind (tSize P)) = some sz then
    (boundAV st 0 lo).bind fun l => (boundAV st xs.length hi).bind fun h => if l ≤ h ∧ h ≤ xs.length then some (.osl i k l h false) else none else none := by
  simp only [sliceAV, hk, if_true]
  cases st.h i with
  | arr e sz xs =>
    simp only [onArr]
    split
    · cases boundAV st 0 lo <;> cases boundAV st xs.length hi <;> rfl
    · rfl
  | _ => rfl
theorem q_sl_refF (P : Program) (t : TypeId) (lo : Option Operand) (h' m' : Operand) (i k : Nat) (hk : k = st.ver i) : sliceAV P st t lo (some h') (some m') (.ref i k) = onArr (st.h i) none fun _ sz xs => if ((tElem P t).bind (tSize P)) = some sz then
    (boundAV st 0 lo).bind fun l => (boundAV st xs.length (some h')).bind fun h => if l ≤ h ∧ h ≤ xs.length then (boundAV st 0 (some m')).bind fun m => if m = h then some (.osl i k l h true) else none else none else none := by
  simp only [sliceAV, hk, if_true]
  cases st.h i with
  | arr e sz xs =>
    simp only [onArr]
    split
    · cases boundAV st 0 (some m') <;> cases boundAV st 0 lo <;> cases boundAV st xs.length (some h') <;> rfl
    · rfl
  | _ => rfl
theorem q_cells_osl (i k lo hi : Nat) (f : Bool) : (AV.osl i k lo hi f).cells = [.osl i k lo hi f] := nrfl _
theorem q_fz_osl (id i k lo hi : Nat) (f : Bool) : fz st id (.osl i k lo hi f) = fz0 st id (.osl i k lo hi f) := nrfl _
theorem q_fz0_osl (id k lo hi : Nat) (f : Bool) (hk : k = st.ver id) : fz0 st id (.osl id k lo hi f) = onArr (st.h id) (.osl id k lo hi f) fun _ sz xs => if lo ≤ hi ∧ hi ≤ xs.length then .lst sz ((xs.drop lo).take (hi - lo)) else .osl id k lo hi f := by
  subst hk; simp only [fz0, true_and, if_true]; cases st.h id <;> rfl
theorem q_fz0_oslo (id i k lo hi : Nat) (f : Bool) (hi' : i ≠ id) : fz0 st id (.osl i k lo hi f) = .osl i k lo hi f := by simp [fz0, hi']
theorem q_onOslC_osl (i k lo hi : Nat) (f : Bool) (F : Nat → Nat → Nat → List AV → Nat → Nat → Prop) (no : Prop) (hk : k = st.ver i) : onOslC st (.osl i k lo hi f) F no = onArr (st.h i) False fun e sz xs => (lo ≤ hi ∧ hi ≤ xs.length) ∧ F i e sz xs lo hi := by
  subst hk; simp only [onOslC, true_and]; cases st.h i <;> rfl
theorem q_onOslC_ref (i k : Nat) (F : Nat → Nat → Nat → List AV → Nat → Nat → Prop) (no : Prop) : onOslC st (.ref i k) F no = no := nrfl _
theorem q_len_osl {P : Program} (t : TypeId) (i k lo hi : Nat) (f : Bool) (hk : k = st.ver i) : lenAV P st t (.osl i k lo hi f) = onArr (st.h i) none fun _ _ xs => if lo ≤ hi ∧ hi ≤ xs.length then (tElem P t).map fun _ => .v (.int .i64 ((hi - lo : Nat) : Int)) else none := by
  subst hk; simp only [lenAV, if_true]; cases st.h i <;> rfl
theorem q_ia_osl {P : Program} (t : TypeId) (j k lo hi : Nat) (f : Bool) (kk : IntKind) (i : Int) (hk : k = st.ver j) : indexAddrAV P st t (.osl j k lo hi f) (.v (.int kk i)) = onArr (st.h j) none fun _ sz xs => if ((tElem P t).bind (tSize P)) = some sz ∧ 0 ≤ i ∧ i < ((hi - lo : Nat) : Int) ∧ hi ≤ xs.length then some (.rptr j k (lo + i.toNat) 0) else none := by
  subst hk; simp only [indexAddrAV, if_true]; cases st.h j <;> rfl
theorem q_dj_osl (X : List Nat) (i k lo hi : Nat) (f : Bool) : dj X (.osl i k lo hi f) = !(X.contains i) := nrfl _
theorem q_take_osl (d i k lo hi : Nat) (f : Bool) : St.take d (.osl i k lo hi f) st = (st, .osl i k lo hi f) := nrfl _
theorem q_nil_osl (i k lo hi : Nat) (f : Bool) : nilSrc st (.osl i k lo hi f) = none := nrfl _
theorem q_fzB_iter (id : Nat) (es : Array MapEntry) (clk : Nat) (done : List MapEntry) : fzB st id (.iter es clk done) = .iter es clk done := nrfl _
theorem q_setIter_σ (i : Nat) (es : Array MapEntry) (clk : Nat) (done : List MapEntry) : (st.setIter i es clk done).σ = st.σ := nrfl _
theorem q_setIter_ver (i : Nat) (es : Array MapEntry) (clk : Nat) (done : List MapEntry) (j : Nat) : (st.setIter i es clk done).ver j = if j = i then st.ver i + 1 else st.ver j := nrfl _
theorem q_setIter_h (i : Nat) (es : Array MapEntry) (clk : Nat) (done : List MapEntry) (j : Nat) : (st.setIter i es clk done).h j = if j = i then .iter es clk done else st.h j := nrfl _
theorem q_onMapF_v (es : Array MapEntry) (clk : Nat) (f : Array MapEntry → Nat → St → Prop) : onMapF st (.mapv es clk) f = f es clk st := nrfl _
theorem q_onMapF_ref (i k : Nat) (f : Array MapEntry → Nat → St → Prop) (hk : k = st.ver i) : onMapF st (.ref i k) f = onMapB (st.h i) fun es clk => f es clk (st.freeze i) := by
  subst hk; simp only [onMapF, true_and]; rfl
theorem w_mrange (d : Tmp) (t : TypeId) (x : Operand) : vcOp G own K ⟨some d, .range t x, ty, po, af, gd⟩ st = ((tMap G.P t).isSome = true ∧ onMapF st (st.ev x) fun es clk st => mapOK es clk ∧ K ((st.setIter (G.ids d) es clk []).put (some d) (.rptr (G.ids d) (st.ver (G.ids d) + 1) 0 0))) := nrfl _
theorem w_next (x : Operand) : vcOp G own K ⟨dst, .next x false, ty, po, af, gd⟩ st = onIter st (st.ev x) fun id es clk done => NextK K dst id es clk done st := by
  show (false = false ∧ _) = _
  simp only [true_and]
theorem w_entry (x : Operand) : vcOp G own K ⟨dst, .entry x, ty, po, af, gd⟩ st = onIter st (st.ev x) fun _ _ _ done => bindP done.getLast? fun e => K (st.put dst (.tup [.v e.key, .v e.val])) := nrfl _
theorem q_fullOf_full (sz : Nat) (xs : List AV) : fullOf (.full sz xs) = some (sz, xs) := nrfl _
theorem q_fullOf_v (x : Value) : fullOf (.v x) = none := nrfl _
theorem q_fullOf_ref (i k : Nat) : fullOf (.ref i k) = none := nrfl _
theorem q_fullOf_lst (sz : Nat) (xs : List AV) : fullOf (.lst sz xs) = none := nrfl _

theorem w_ops_nil : vcOps G own ops QS [] st = QS st := nrfl _
theorem w_ops_none (l : List Oper) (op : Op) : vcOps G own ops QS (⟨dst, op, ty, po, af, none⟩ :: l) st = (dstOK G.n dst ∧ vcOp G own (vcOps G own ops QS l) ⟨dst, op, ty, po, af, none⟩ st) := nrfl _
theorem w_ops_some (l : List Oper) (op : Op) (j : Nat) (want : Bool) : vcOps G own ops QS (⟨dst, op, ty, po, af, some (j, want)⟩ :: l) st = (dstOK G.n dst ∧ bindP (guardSlot ops j) fun t => bindP (guardV (st.σ t) want) fun b => if b = true then vcOp G own (vcOps G own ops QS l) ⟨dst, op, ty, po, af, some (j, want)⟩ st else vcOps G own ops QS l (st.put dst (.v undef))) := by
  simp only [vcOps]
  cases guardSlot ops j <;> simp only [bindP_none, bindP_some]
/-- What comes behind an operation in any order. -/
def calmNext (G : Ctx) (ops : Array Oper) (QS : St → Prop) (l : List Oper) (dst : Option Tmp) (st : St) (r : AV) : Prop := vcCalm G ops QS l (st.put dst r)
theorem c_next (l : List Oper) (r : AV) : calmNext G ops QS l dst st r = vcCalm G ops QS l (st.put dst r) := nrfl _
theorem c_ops_nil : vcCalm G ops QS [] st = QS st := nrfl _
theorem c_ops_none (l : List Oper) (op : Op) : vcCalm G ops QS (⟨dst, op, ty, po, af, none⟩ :: l) st = (dstOK G.n dst ∧ calmThen G ⟨dst, op, ty, po, af, none⟩ (calmNext G ops QS l dst st) st) := nrfl _
theorem c_ops_some (l : List Oper) (op : Op) (j : Nat) (want : Bool) : vcCalm G ops QS (⟨dst, op, ty, po, af, some (j, want)⟩ :: l) st = (dstOK G.n dst ∧ bindP (guardSlot ops j) fun t => bindP (guardV (st.σ t) want) fun b => if b = true then calmThen G ⟨dst, op, ty, po, af, some (j, want)⟩ (calmNext G ops QS l dst st) st else vcCalm G ops QS l (st.put dst (.v undef))) := by
  simp only [vcCalm]
  cases guardSlot ops j <;> simp only [bindP_none, bindP_some] <;> rfl
/-- What comes behind an operation of a region with own writes. -/
def anyNext (G : Ctx) (own X Y early : List Nat) (ops : Array Oper) (QS : St → Prop) (l : List Oper) (st : St) : Prop := vcAny G own X Y early ops QS l st
theorem a_next (X Y early : List Nat) (l : List Oper) : anyNext G own X Y early ops QS l st = vcAny G own X Y early ops QS l st := nrfl _
theorem a_nil (X Y early : List Nat) : vcAny G own X Y early ops QS [] st = QS st := nrfl _
theorem a_calm {X Y early : List Nat} (l : List Oper) (o : Oper) (hk : kindO own o = 0) : vcAny G own X Y early ops QS (o :: l) st = (lateB X (if isEarly early o = true then [] else Y) st o = true ∧ vcCalm G ops (anyNext G own X Y early ops QS l) [o] st) := by
  rw [vcAny, hk]; rfl
theorem a_calmT {X Y early : List Nat} (l : List Oper) (o : Oper) (hk : kindO own o = 0) (hl : lateB X (if isEarly early o = true then [] else Y) st o = true) : vcAny G own X Y early ops QS (o :: l) st = vcCalm G ops (anyNext G own X Y early ops QS l) [o] st := by
  rw [a_calm l o hk, hl]; simp
section
variable {X Y early : List Nat} (l : List Oper)
theorem a_move (x : Operand) : vcAny G own X Y early ops QS (⟨dst, .move x, ty, po, af, gd⟩ :: l) st = vcCalm G ops (anyNext G own X Y early ops QS l) [⟨dst, .move x, ty, po, af, gd⟩] st := a_calmT _ _ rfl rfl
theorem a_assign (x : Operand) : vcAny G own X Y early ops QS (⟨dst, .assign x, ty, po, af, gd⟩ :: l) st = vcCalm G ops (anyNext G own X Y early ops QS l) [⟨dst, .assign x, ty, po, af, gd⟩] st := a_calmT _ _ rfl rfl
theorem a_pick (c x y : Operand) : vcAny G own X Y early ops QS (⟨dst, .pick c x y, ty, po, af, gd⟩ :: l) st = vcCalm G ops (anyNext G own X Y early ops QS l) [⟨dst, .pick c x y, ty, po, af, gd⟩] st := a_calmT _ _ rfl rfl
theorem a_binOp (op : BinOp) (t u : TypeId) (x y : Operand) : vcAny G own X Y early ops QS (⟨dst, .binOp op t x y u, ty, po, af, gd⟩ :: l) st = vcCalm G ops (anyNext G own X Y early ops QS l) [⟨dst, .binOp op t x y u, ty, po, af, gd⟩] st := a_calmT _ _ rfl rfl
theorem a_unOp (op : UnOp) (t : TypeId) (x : Operand) : vcAny G own X Y early ops QS (⟨dst, .unOp op t x, ty, po, af, gd⟩ :: l) st = vcCalm G ops (anyNext G own X Y early ops QS l) [⟨dst, .unOp op t x, ty, po, af, gd⟩] st := a_calmT _ _ rfl rfl
theorem a_convert (s d : TypeId) (x : Operand) : vcAny G own X Y early ops QS (⟨dst, .convert s d x, ty, po, af, gd⟩ :: l) st = vcCalm G ops (anyNext G own X Y early ops QS l) [⟨dst, .convert s d x, ty, po, af, gd⟩] st := a_calmT _ _ rfl rfl
theorem a_extract (x : Operand) (i : Nat) : vcAny G own X Y early ops QS (⟨dst, .extract x i, ty, po, af, gd⟩ :: l) st = vcCalm G ops (anyNext G own X Y early ops QS l) [⟨dst, .extract x i, ty, po, af, gd⟩] st := a_calmT _ _ rfl rfl
theorem a_makeFunc (f : Fn) (as' bs : Array Operand) : vcAny G own X Y early ops QS (⟨dst, .makeFunc f as' bs, ty, po, af, gd⟩ :: l) st = vcCalm G ops (anyNext G own X Y early ops QS l) [⟨dst, .makeFunc f as' bs, ty, po, af, gd⟩] st := a_calmT _ _ rfl rfl
theorem a_field (t : TypeId) (x : Operand) (n : Nat) : vcAny G own X Y early ops QS (⟨dst, .field t x n, ty, po, af, gd⟩ :: l) st = vcCalm G ops (anyNext G own X Y early ops QS l) [⟨dst, .field t x n, ty, po, af, gd⟩] st := a_calmT _ _ rfl rfl
theorem a_index (t : TypeId) (x i : Operand) : vcAny G own X Y early ops QS (⟨dst, .index t x i, ty, po, af, gd⟩ :: l) st = vcCalm G ops (anyNext G own X Y early ops QS l) [⟨dst, .index t x i, ty, po, af, gd⟩] st := a_calmT _ _ rfl rfl
theorem a_fieldAddr (t : TypeId) (x : Operand) (n : Nat) : vcAny G own X Y early ops QS (⟨dst, .fieldAddr t x n, ty, po, af, gd⟩ :: l) st = (dj X (st.ev x) = true ∧ vcCalm G ops (anyNext G own X Y early ops QS l) [⟨dst, .fieldAddr t x n, ty, po, af, gd⟩] st) := a_calm _ _ rfl
theorem a_indexAddr (t : TypeId) (x i : Operand) : vcAny G own X Y early ops QS (⟨dst, .indexAddr t x i, ty, po, af, gd⟩ :: l) st = (dj X (st.ev x) = true ∧ vcCalm G ops (anyNext G own X Y early ops QS l) [⟨dst, .indexAddr t x i, ty, po, af, gd⟩] st) := a_calm _ _ rfl
theorem a_load (d : Tmp) (t : TypeId) (x : Operand) : vcAny G own X Y early ops QS (⟨some d, .load t x, ty, po, af, gd⟩ :: l) st = (dj (X ++ (if early.contains d = true then [] else Y)) (st.ev x) = true ∧ vcCalm G ops (anyNext G own X Y early ops QS l) [⟨some d, .load t x, ty, po, af, gd⟩] st) := a_calm _ _ rfl
theorem a_build (t : TypeId) (ps : Array (Nat × Operand)) : vcAny G own X Y early ops QS (⟨dst, .build t ps, ty, po, af, gd⟩ :: l) st = ((ps.toList.all fun p => (st.ev p.2).cells.all (dj X)) = true ∧ vcCalm G ops (anyNext G own X Y early ops QS l) [⟨dst, .build t ps, ty, po, af, gd⟩] st) := a_calm _ _ rfl
theorem a_box (t : TypeId) (x : Operand) : vcAny G own X Y early ops QS (⟨dst, .box t x, ty, po, af, gd⟩ :: l) st = ((st.ev x).cells.all (dj X) = true ∧ vcCalm G ops (anyNext G own X Y early ops QS l) [⟨dst, .box t x, ty, po, af, gd⟩] st) := a_calm _ _ rfl
theorem a_buildSlice (d : Tmp) (t : TypeId) (n : Nat) (ps : Array (Nat × Operand)) (hd : own.contains d = false) : vcAny G own X Y early ops QS (⟨some d, .buildSlice t n ps, ty, po, af, gd⟩ :: l) st = ((ps.toList.all fun p => (st.ev p.2).cells.all (dj X)) = true ∧ vcCalm G ops (anyNext G own X Y early ops QS l) [⟨some d, .buildSlice t n ps, ty, po, af, gd⟩] st) := a_calm _ _ (by simp only [kindO, hd]; rfl)
theorem a_len (xs : Array Operand) (ts : Array TypeId) : vcAny G own X Y early ops QS (⟨dst, .call { callee := .builtin .len, args := xs, argTypes := ts }, ty, po, af, gd⟩ :: l) st = ((xs.toList.all fun x => dj X (st.ev x)) = true ∧ vcCalm G ops (anyNext G own X Y early ops QS l) [⟨dst, .call { callee := .builtin .len, args := xs, argTypes := ts }, ty, po, af, gd⟩] st) := a_calm _ _ rfl
/-- Is a function's value, with what it holds, without own memory? -/
def plainFn : AV → Bool
  | .fn _ a b => a.all plainAV && b.all plainAV
  | _ => false
theorem a_call (d : Tmp) (f : Operand) (xs : Array Operand) (ts : Array TypeId) (hd : own.contains d = false) : vcAny G own X Y early ops QS (⟨some d, .call { callee := .value f, args := xs, argTypes := ts }, ty, po, af, gd⟩ :: l) st = ((plainFn (st.ev f) && xs.toList.all fun x => plainAV (st.ev x)) = true ∧ vcCalm G ops (anyNext G own X Y early ops QS l) [⟨some d, .call { callee := .value f, args := xs, argTypes := ts }, ty, po, af, gd⟩] st) := by
  rw [a_calm _ _ (by simp only [kindO]; rw [hd]; rfl)]
  have : lateB X (if isEarly early ⟨some d, .call { callee := .value f, args := xs, argTypes := ts }, ty, po, af, gd⟩ = true then [] else Y) st ⟨some d, .call { callee := .value f, args := xs, argTypes := ts }, ty, po, af, gd⟩ = (plainFn (st.ev f) && xs.toList.all fun x => plainAV (st.ev x)) := by
    simp only [lateB, plainFn]
    cases st.ev f <;> rfl
  rw [this]
theorem a_callF (d : Tmp) (f : Operand) (xs : Array Operand) (ts : Array TypeId) (hd : own.contains d = true) : vcAny G own X Y early ops QS (⟨some d, .call { callee := .value f, args := xs, argTypes := ts }, ty, po, af, none⟩ :: l) st = (d < G.n ∧ onFn (st.ev f) fun g first captured => OwnCall G X g (first ++ (xs.toList.map st.ev ++ captured)) d (anyNext G own X Y early ops QS l) st) := by
  rw [vcAny, show kindO own ⟨some d, .call { callee := .value f, args := xs, argTypes := ts }, ty, po, af, none⟩ = 2 by simp only [kindO]; rw [hd]; rfl]; simp only [true_and]; rfl
theorem a_append (d : Tmp) (p q : Operand) (t t' : TypeId) : vcAny G own X Y early ops QS (⟨some d, .call { callee := .builtin .append, args := #[p, q], argTypes := #[t, t'] }, ty, po, af, none⟩ :: l) st = (d < G.n ∧ (t' = t ∧ bindP (tElem G.P t) fun e => bindP (tSize G.P e) fun sz => bindP (tBytes G.P e) fun bytes => ((tZero G.P e).map (·.cells.size) = some sz ∧ 0 < sz) ∧
    onFull (fullOf (st.ev p)) (fun sz' xs => sz' = sz ∧ bindP (srcAV st sz (st.ev q)) fun ys => (okAll st ys ∧ (xs.length + ys.length) * bytes ≤ 140737488355328 ∧ xs.length + ys.length ≤ 140737488355328) ∧ ys ≠ [] ∧ G.ids d ∈ X ∧
      anyNext G own X Y early ops QS l ((st.setArr (G.ids d) e sz (xs ++ ys)).put (some d) (.ref (G.ids d) (st.ver (G.ids d) + 1))))
    (oslOf st (st.ev p) = none ∧ bindP (destAV st (G.ids d) e sz (st.ev p)) fun dx => bindP (srcAV st sz (st.ev q)) fun ys => (okAll st ys ∧ (dx.2.length + ys.length) * bytes ≤ 140737488355328 ∧ dx.2.length + ys.length ≤ 140737488355328) ∧ dx.1 ∈ X ∧
      anyNext G own X Y early ops QS l ((st.setArr dx.1 e sz (dx.2 ++ ys)).put (some d) (.ref dx.1 (st.ver dx.1 + 1)))))) := by
  rw [vcAny, show kindO own ⟨some d, .call { callee := .builtin .append, args := #[p, q], argTypes := #[t, t'] }, ty, po, af, none⟩ = 2 from rfl]; simp only [true_and]; rfl
theorem a_slice (t : TypeId) (x : Operand) (lo hi mx : Option Operand) : vcAny G own X Y early ops QS (⟨dst, .slice t x lo hi mx, ty, po, af, gd⟩ :: l) st = (plain0 (st.ev x) = true ∧ vcCalm G ops (anyNext G own X Y early ops QS l) [⟨dst, .slice t x lo hi mx, ty, po, af, gd⟩] st) := a_calm _ _ rfl
theorem a_buildOwn (d : Tmp) (t : TypeId) (n : Nat) (ps : Array (Nat × Operand)) (hd : own.contains d = true) : vcAny G own X Y early ops QS (⟨some d, .buildSlice t n ps, ty, po, af, none⟩ :: l) st = (d < G.n ∧ bindP (litAV G.P st t n ps) fun x => G.ids d ∈ X ∧
    anyNext G own X Y early ops QS l ((st.setArr (G.ids d) x.1 x.2.1 x.2.2).put (some d) (.ref (G.ids d) (st.ver (G.ids d) + 1)))) := by
  have hm : d ∈ own := by simpa using hd
  rw [vcAny, show kindO own ⟨some d, .buildSlice t n ps, ty, po, af, none⟩ = 2 from by unfold kindO; simp only [hd, if_true]]; simp only [true_and, ownStep, hm]; rfl
theorem a_alloc (d : Tmp) (t : TypeId) : vcAny G own X Y early ops QS (⟨some d, .alloc t, ty, po, af, none⟩ :: l) st = (d < G.n ∧ G.ids d ∈ X ∧ bindP (tZero G.P t) fun z => (valCells z).all zeroOK = true ∧ anyNext G own X Y early ops QS l (allocSt G d z st)) := by
  rw [vcAny, show kindO own ⟨some d, .alloc t, ty, po, af, none⟩ = 1 from rfl]; simp only [true_and]; rfl
theorem a_store (t : TypeId) (p x : Operand) : vcAny G own X Y early ops QS (⟨dst, .store t p x, ty, po, af, none⟩ :: l) st = (dstOK G.n dst ∧ bindP (storeSt G.P st t (st.ev p) (st.ev x)) fun st' => inY X Y (st.ev p) = true ∧ anyNext G own X Y early ops QS l (st'.put dst .junk)) := by
  rw [vcAny, show kindO own ⟨dst, .store t p x, ty, po, af, none⟩ = 2 from rfl]; simp only [true_and]; rfl
end
theorem q_allocSt (d : Nat) (z : Value) : allocSt G d z st = (st.setBox (G.ids d) (valCells z)).put (some d) (.rptr (G.ids d) (st.ver (G.ids d) + 1) 0 0) := nrfl _
theorem q_dj_ref (X : List Nat) (i k : Nat) : dj X (.ref i k) = !(X.contains i) := nrfl _
theorem q_dj_rptr (X : List Nat) (i k n j : Nat) : dj X (.rptr i k n j) = !(X.contains i) := nrfl _
theorem q_dj_v (X : List Nat) (x : Value) : dj X (.v x) = true := nrfl _
theorem q_dj_lst (X : List Nat) (sz : Nat) (xs : List AV) : dj X (.lst sz xs) = true := nrfl _
theorem q_dj_eptr (X : List Nat) (cs : List AV) (j : Nat) : dj X (.eptr cs j) = true := nrfl _
theorem q_zeroOK (x : Value) : zeroOK (.v x) = x.oneCell' := nrfl _
theorem q_inY (X Y : List Nat) (i k n j : Nat) : inY X Y (.rptr i k n j) = (Y.contains i || X.contains i) := nrfl _
theorem q_plainFn (f : Fn) (a b : List AV) : plainFn (.fn f a b) = (a.all plainAV && b.all plainAV) := nrfl _
theorem q_plain_v (x : Value) : plainAV (.v x) = true := nrfl _
theorem q_plain_lst (sz : Nat) (xs : List AV) : plainAV (.lst sz xs) = true := nrfl _
theorem q_plain_eptr (cs : List AV) (j : Nat) : plainAV (.eptr cs j) = true := nrfl _
theorem q_plain_agg (cs : List AV) : plainAV (.agg cs) = cs.all plain0 := nrfl _
theorem q_plain0_v (x : Value) : plain0 (.v x) = true := nrfl _
theorem q_plain0_lst (sz : Nat) (xs : List AV) : plain0 (.lst sz xs) = true := nrfl _
theorem w_skip : vcCode G own .skip Q st = Q .normal st := nrfl _
theorem w_label (l : Nat) : vcCode G own (.label l) Q st = Q .normal st := nrfl _
theorem w_ret : vcCode G own .ret Q st = Q .ret st := nrfl _
theorem w_exit (id : Nat) : vcCode G own (.exit id) Q st = Q (.exit id) st := nrfl _
theorem w_region (id : Nat) : vcCode G own (.region id ops false) Q st = vcOps G own ops (Q .normal) ops.toList st := nrfl _
theorem w_draws (id : Nat) : vcCode G own (.region id ops true) Q st = AWp G (.region id ops true) Q st := nrfl _
theorem w_seq (a b : Code) : vcCode G own (.seq a b) Q st = vcCode G own a (thenA (vcCode G own b Q) Q) st := nrfl _
theorem w_cond (c : Operand) (a b : Code) : vcCode G own (.cond c a b) Q st = onBool (st.ev c) fun t => if t = true then vcCode G own a Q st else vcCode G own b Q st := nrfl _
theorem w_block (id : Nat) (c : Code) : vcCode G own (.block id c) Q st = vcCode G own c (inBlockA id Q) st := nrfl _
theorem w_loop (c : Code) : vcCode G own (.loop c) Q st = AWp G (.loop c) Q st := nrfl _
theorem w_then_normal : thenA K Q .normal st = K st := nrfl _
theorem w_then_ret : thenA K Q .ret st = Q .ret st := nrfl _
theorem w_then_exit (id : Nat) : thenA K Q (.exit id) st = Q (.exit id) st := nrfl _
theorem w_in_normal (id : Nat) : inBlockA id Q .normal st = Q .normal st := nrfl _
theorem w_in_ret (id : Nat) : inBlockA id Q .ret st = Q .ret st := nrfl _
theorem w_in_exit (id id' : Nat) : inBlockA id Q (.exit id') st = if id' = id then Q .normal st else Q (.exit id') st := nrfl _
theorem w_range (g : Operand) (ps : Array Tmp) (x c : Code) : vcCode G own (.rangeFunc g ps x c) Q st = AWp G (.rangeFunc g ps x c) Q st := nrfl _
theorem q_mem_σ (s : St) : (st.mem s).σ = st.σ := nrfl _
theorem q_mem_ver (s : St) : (st.mem s).ver = s.ver := nrfl _
theorem q_mem_h (s : St) : (st.mem s).h = s.h := nrfl _
theorem q_fill0 (σ : Nat → AV) (vs : List AV) : fillSlots σ [] vs = σ := nrfl _
theorem q_fill1 (σ : Nat → AV) (t : Tmp) (v : AV) (j : Nat) : fillSlots σ [t] [v] j = if j = t then v else σ j := nrfl _
theorem q_upd {α : Type} (f : Nat → α) (i : Nat) (x : α) (j : Nat) : upd f i x j = if j = i then x else f j := nrfl _
theorem w_pr_normal (R V : Nat) (r : Loop) (si s : St) : PostRound R V r si dst K .normal s = ((s.ver R = V ∧ s.h R = recB r .busy none) ∧ K ((si.mem (s.setH R (recB r .ready none))).put dst (.v (.bool true)))) := nrfl _
theorem w_pr_ret (R V : Nat) (r : Loop) (si s : St) : PostRound R V r si dst K .ret s = ((s.ver R = V ∧ s.h R = recB r .busy none) ∧ K ((si.mem (s.setH R (recB r .done (some .ret)))).put dst (.v (.bool false)))) := nrfl _
theorem w_pr_exit (R V : Nat) (r : Loop) (si s : St) (id : Nat) : PostRound R V r si dst K (.exit id) s = ((s.ver R = V ∧ s.h R = recB r .busy none) ∧ K ((si.mem (s.setH R (recB r .done (some (.exit id))))).put dst (.v (.bool false)))) := nrfl _
theorem w_pa_normal (l R V : Nat) (r : Loop) (body : Code) (s : St) : PostAssign G l R V r body Q .normal s = ((s.ver R = V ∧ s.h R = recB r .ready none) ∧ ∀ e0, AWp ⟨G.P, G.w0, G.S0, G.n, some l, G.ids, e0⟩ body Q (s.setH R (recB r .busy none))) := nrfl _
theorem w_pi_normal (R V : Nat) (r : Loop) (s : St) : PostIter G st R V r Q .normal s = (s.ver R = V ∧ ((s.h R = recB r .ready none ∧ Q .normal (st.mem (s.setH R .none))) ∨ (∃ c, s.h R = recB r .done (some c) ∧ AWp G c Q (st.mem (s.setH R .none))))) := nrfl _
theorem w_pi_ret (R V : Nat) (r : Loop) (s : St) : PostIter G st R V r Q .ret s = (s.ver R = V ∧ ((s.h R = recB r .ready none ∧ Q .normal (st.mem (s.setH R .none))) ∨ (∃ c, s.h R = recB r .done (some c) ∧ AWp G c Q (st.mem (s.setH R .none))))) := nrfl _
end
end Go.Abs
