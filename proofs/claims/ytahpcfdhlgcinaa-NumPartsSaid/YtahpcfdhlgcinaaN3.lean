/- Contracts of chapter 01: the decimal digits. No condition. -/
import Derived.Test.YtahpcfdhlgcinaaN2
namespace Go.Proofs.Ytahpcfdhlgcinaa
open Go Go.Abs
set_option linter.unusedSimpArgs false
/-- The decimal digits of a number, at most so many. -/
def digs : Nat → Nat → Bytes
  | 0, _ => []
  | f + 1, m => if m < 10 then [UInt8.ofNat (48 + m)] else digs f (m / 10) ++ [UInt8.ofNat (48 + m % 10)]
def textOf (n : Int) : Bytes := if n < 0 then 45 :: digs 20 n.natAbs else digs 20 n.natAbs
theorem digs_small {f m : Nat} (h : m < 10) : digs (f + 1) m = [UInt8.ofNat (48 + m)] := by show (if m < 10 then _ else _) = _; rw [if_pos h]
theorem digs_more {f m : Nat} (h : ¬ m < 10) : digs (f + 1) m = digs f (m / 10) ++ [UInt8.ofNat (48 + m % 10)] := by show (if m < 10 then _ else _) = _; rw [if_neg h]
/-- A byte, as a value. -/
def U8 (b : UInt8) : AV := .v (.int .u8 b.toNat)
theorem U8_of {r : Nat} (h : r < 10) : U8 (UInt8.ofNat (48 + r)) = .v (.int .u8 (48 + (r : Int))) := by
  unfold U8
  have : (UInt8.ofNat (48 + r)).toNat = 48 + r := by simp [UInt8.toNat_ofNat']; omega
  rw [this]; simp
theorem bytes_map (bs : Bytes) : (bs.map U8).mapM byteAV = some (bs.map fun b => (b.toNat : Int)) := by
  induction bs with
  | nil => rfl
  | cons b bs ih => rw [List.map_cons, List.mapM_cons, ih]; rfl
theorem nums_of (bs : Bytes) : strOfNums (bs.map fun b => (b.toNat : Int)) = ⟨bs.toArray⟩ := by
  unfold strOfNums
  congr 2
  rw [List.map_map]
  conv => rhs; rw [← List.map_id bs]
  exact List.map_congr_left fun b _ => by simp
theorem allV (bs : Bytes) : (bs.map U8).all isV = true := by simp [List.all_map]; intro b _; rfl
theorem tmod10 (m : Nat) : ((m : Int)).tmod 10 = ((m % 10 : Nat) : Int) := by
  rw [Int.tmod_eq_emod_of_nonneg (by omega)]; simp
theorem tdiv10 (m : Nat) : ((m : Int)).tdiv 10 = ((m / 10 : Nat) : Int) := by
  rw [Int.tdiv_eq_ediv_of_nonneg (by omega)]; simp
/-- A row of bytes with one written. -/
def putB (bs : Bytes) (p : Nat) (b : UInt8) : Bytes := bs.take p ++ b :: bs.drop (p + 1)
theorem putB_map {bs : Bytes} {p : Nat} (b : UInt8) : (bs.map U8).take p ++ U8 b :: (bs.map U8).drop (p + 1) = (putB bs p b).map U8 := by
  unfold putB
  rw [List.map_append, List.map_cons, List.map_take, List.map_drop]
theorem putB_len {bs : Bytes} {p : Nat} (b : UInt8) (h : p < bs.length) : (putB bs p b).length = bs.length := by
  unfold putB
  simp; omega
theorem putB_drop {bs : Bytes} {p : Nat} (b : UInt8) (h : p < bs.length) : (putB bs p b).drop p = b :: bs.drop (p + 1) := by
  unfold putB
  rw [List.drop_append_of_le_length (by rw [List.length_take]; omega)]
  have : (bs.take p).drop p = [] := by apply List.drop_eq_nil_of_le; rw [List.length_take]; omega
  rw [this]; rfl
end Go.Proofs.Ytahpcfdhlgcinaa
