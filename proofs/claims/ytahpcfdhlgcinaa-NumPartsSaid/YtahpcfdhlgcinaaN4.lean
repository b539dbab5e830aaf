/- Contracts of chapter 01: the program's Text. No condition. -/
import Derived.Test.YtahpcfdhlgcinaaN3
namespace Go.Proofs.Ytahpcfdhlgcinaa
open Go Go.Abs
set_option linter.unusedSimpArgs false
theorem bytes_td (bs : Bytes) (k m : Nat) : (((bs.map U8).drop k).take m).mapM byteAV = some (((bs.drop k).take m).map fun b => (b.toNat : Int)) := by
  rw [← List.map_drop, ← List.map_take, bytes_map]
theorem bytes_t0 (bs : Bytes) (m : Nat) : ((bs.map U8).take m).mapM byteAV = some ((bs.take m).map fun b => (b.toNat : Int)) := by rw [← List.map_take, bytes_map]
theorem nums_d (bs : Bytes) (p : Nat) : strOfNums (List.drop p (bs.map fun b => (b.toNat : Int))) = ⟨(bs.drop p).toArray⟩ := by rw [← List.map_drop, nums_of]
theorem isV_U8 (b : UInt8) : isV (U8 b) = true := rfl
theorem maxLen20 : 20 ≤ maxLen := by unfold maxLen; omega
theorem allV' (bs : Bytes) : ((bs.map U8).all isV) = true := allV bs
set_option maxRecDepth 8000 in
set_option maxHeartbeats 4000000 in
theorem text_ac (n : Int) (hn1 : -9223372036854775808 ≤ n) (hn2 : n ≤ 9223372036854775807) : AC Try.prog 16 [I n] (S (textOf n)) := by
  refine AC.of_body Try.func16 rfl rfl Try.ntmps16 (congrArg Array.toList Try.results16) (by simp) (pures1 (pure_I _)) (pure_S _) fun w S' => AWp.of_vc [] ?_
  obtain ⟨M, hM⟩ : ∃ M, M = n.natAbs := ⟨_, rfl⟩
  by_cases hn : n < 0
  · have w1 : IntKind.u64.wrap n = n + 18446744073709551616 := by simp [IntKind.wrap, IntKind.bits, IntKind.signed]; omega
    have w2 : IntKind.u64.wrap (-(n + 18446744073709551616)) = (M : Int) := by simp [IntKind.wrap, IntKind.bits, IntKind.signed]; omega
    have hT : textOf n = 45 :: digs 20 M := by unfold textOf; rw [if_pos hn, hM]
    simp [go_sem, hn, w1, w2]
    refine AWp.loop_vc [] (fun m s => ∃ (p u : Nat) (bs : Bytes), p ≤ 20 ∧ m = p ∧ s.σ 0 = I n ∧ s.σ 3 = .v (.int .u64 u) ∧ s.σ 4 = .rptr 4 1 0 0 ∧ s.σ 5 = I p ∧ s.σ 13 = I (20 - (p : Int)) ∧ s.ver 4 = 1 ∧ s.h 4 = .box (bs.map U8) ∧ bs.length = 20 ∧ digs 20 M = digs p u ++ bs.drop p ∧ u < 18446744073709551616) 20 ⟨20, M, List.replicate 20 0, by omega, rfl, by simp [go_sem], by simp [go_sem], by simp [go_sem], by simp [go_sem], by simp [go_sem], by simp [go_sem], by simp [go_sem]; rfl, rfl, by simp, by omega⟩ ?_
    rintro p s ⟨_, u, bs, hp, rfl, h0, h3, h4, h5, h13, hv4, hh4, hbl, hD, hu⟩
    cases p with
    | zero =>
      have hbs : digs 20 M = bs := by rw [hD]; simp [digs]
      have hbt : bs.take 20 = bs := List.take_of_length_le (by omega)
      simp [go_sem, h0, h3, h4, h5, h13, hv4, hh4, hn, hbl, maxLen20, isV_U8, bytes_t0, hbt, nums_of]
      refine PostR.ret ?_
      simp [go_sem, hT, hbs]
    | succ p =>
      obtain ⟨r, hr⟩ : ∃ r, r = u % 10 := ⟨_, rfl⟩
      obtain ⟨q, hq⟩ : ∃ q, q = u / 10 := ⟨_, rfl⟩
      have hr10 : r < 10 := by omega
      have hrem : ((u : Int)).tmod 10 = (r : Int) := by rw [tmod10, hr]
      have hquo : ((u : Int)).tdiv 10 = (q : Int) := by rw [tdiv10, hq]
      have wa : IntKind.u64.wrap (48 + (r : Int)) = 48 + (r : Int) := wrap_u64 (by omega) (by omega)
      have wb : IntKind.u8.wrap (48 + (r : Int)) = 48 + (r : Int) := wrap_u8 (by omega) (by omega)
      have wq : IntKind.u64.wrap (q : Int) = (q : Int) := wrap_u64 (by omega) (by omega)
      have wp : IntKind.i64.wrap (p : Int) = (p : Int) := wrapOf (by omega) (by omega)
      have wp20 : IntKind.i64.wrap (20 - ((p : Int) + 1) + 1) = 20 - (p : Int) := by rw [show (20 : Int) - ((p : Int) + 1) + 1 = 20 - p by omega]; exact wrapOf (by omega) (by omega)
      have t0 : (20 : Int) - ((p : Int) + 1) < 20 := by omega
      have t1 : (p : Int) < 20 := by omega
      have t2 : p < 20 := by omega
      have t3 : p ≤ 19 := by omega
      have t4 : p ≤ 20 := by omega
      have hsz : ¬ (9223372036854775807 : Int) < 1 + ((20 - p : Nat) : Int) := by omega
      have wz : IntKind.u64.wrap 0 = 0 := wrap_u64 (by omega) (by omega)
      have hcells : List.take p (List.map U8 bs) ++ AV.v (.int .u8 (48 + (r : Int))) :: List.drop (p + 1) (List.map U8 bs) = (putB bs p (UInt8.ofNat (48 + r))).map U8 := by rw [← putB_map, U8_of hr10]
      have hpl := putB_len (UInt8.ofNat (48 + r)) (show p < bs.length by omega)
      have hpd := putB_drop (UInt8.ofNat (48 + r)) (show p < bs.length by omega)
      generalize putB bs p (UInt8.ofNat (48 + r)) = bs' at hcells hpl hpd
      have hbt : (bs'.drop p).take (20 - p) = bs'.drop p := List.take_of_length_le (by rw [List.length_drop]; omega)
      by_cases hu10 : u < 10
      · have hq0 : q = 0 := by omega
        subst hq0
        simp [go_sem, h0, h3, h4, h5, h13, hv4, hh4, hrem, hquo, wa, wb, wq, wp, t0, t1, t2, t3, hbl, hcells, hn, hpl, maxLen20, isV_U8, bytes_td, nums_of, nums_d, wz, t4, hbt, hsz]
        have hend : digs 20 M = bs'.drop p := by
          have hru : r = u := by omega
          rw [hD, digs_small hu10, hpd, hru]; rfl
        refine PostR.ret ?_
        simp [go_sem, hT, hend]
      · have hq0 : ¬ (q : Int) = 0 := by omega
        have hq0' : ¬ q = 0 := by omega
        simp [go_sem, h0, h3, h4, h5, h13, hv4, hh4, hrem, hquo, wa, wb, wq, wp, t0, t1, t2, t3, t4, hbl, hcells, hq0, hq0', wp20]
        exact ⟨p, by omega, p, by omega, rfl, q, rfl, rfl, bs', rfl, hpl.trans hbl, by rw [hD, digs_more hu10, hpd, ← hr, ← hq]; simp, by omega⟩
  · have w1 : IntKind.u64.wrap n = (M : Int) := by rw [wrap_u64 (by omega) (by omega)]; omega
    have hT : textOf n = digs 20 M := by unfold textOf; rw [if_neg hn, hM]
    simp [go_sem, hn, w1]
    refine AWp.loop_vc [] (fun m s => ∃ (p u : Nat) (bs : Bytes), p ≤ 20 ∧ m = p ∧ s.σ 0 = I n ∧ s.σ 3 = .v (.int .u64 u) ∧ s.σ 4 = .rptr 4 1 0 0 ∧ s.σ 5 = I p ∧ s.σ 13 = I (20 - (p : Int)) ∧ s.ver 4 = 1 ∧ s.h 4 = .box (bs.map U8) ∧ bs.length = 20 ∧ digs 20 M = digs p u ++ bs.drop p ∧ u < 18446744073709551616) 20 ⟨20, M, List.replicate 20 0, by omega, rfl, by simp [go_sem], by simp [go_sem], by simp [go_sem], by simp [go_sem], by simp [go_sem], by simp [go_sem], by simp [go_sem]; rfl, rfl, by simp, by omega⟩ ?_
    rintro p s ⟨_, u, bs, hp, rfl, h0, h3, h4, h5, h13, hv4, hh4, hbl, hD, hu⟩
    cases p with
    | zero =>
      have hbs : digs 20 M = bs := by rw [hD]; simp [digs]
      have hbt : bs.take 20 = bs := List.take_of_length_le (by omega)
      simp [go_sem, h0, h3, h4, h5, h13, hv4, hh4, hn, hbl, maxLen20, isV_U8, bytes_t0, hbt, nums_of]
      refine PostR.ret ?_
      simp [go_sem, hT, hbs]
    | succ p =>
      obtain ⟨r, hr⟩ : ∃ r, r = u % 10 := ⟨_, rfl⟩
      obtain ⟨q, hq⟩ : ∃ q, q = u / 10 := ⟨_, rfl⟩
      have hr10 : r < 10 := by omega
      have hrem : ((u : Int)).tmod 10 = (r : Int) := by rw [tmod10, hr]
      have hquo : ((u : Int)).tdiv 10 = (q : Int) := by rw [tdiv10, hq]
      have wa : IntKind.u64.wrap (48 + (r : Int)) = 48 + (r : Int) := wrap_u64 (by omega) (by omega)
      have wb : IntKind.u8.wrap (48 + (r : Int)) = 48 + (r : Int) := wrap_u8 (by omega) (by omega)
      have wq : IntKind.u64.wrap (q : Int) = (q : Int) := wrap_u64 (by omega) (by omega)
      have wp : IntKind.i64.wrap (p : Int) = (p : Int) := wrapOf (by omega) (by omega)
      have wp20 : IntKind.i64.wrap (20 - ((p : Int) + 1) + 1) = 20 - (p : Int) := by rw [show (20 : Int) - ((p : Int) + 1) + 1 = 20 - p by omega]; exact wrapOf (by omega) (by omega)
      have t0 : (20 : Int) - ((p : Int) + 1) < 20 := by omega
      have t1 : (p : Int) < 20 := by omega
      have t2 : p < 20 := by omega
      have t3 : p ≤ 19 := by omega
      have t4 : p ≤ 20 := by omega
      have hsz : ¬ (9223372036854775807 : Int) < 1 + ((20 - p : Nat) : Int) := by omega
      have wz : IntKind.u64.wrap 0 = 0 := wrap_u64 (by omega) (by omega)
      have hcells : List.take p (List.map U8 bs) ++ AV.v (.int .u8 (48 + (r : Int))) :: List.drop (p + 1) (List.map U8 bs) = (putB bs p (UInt8.ofNat (48 + r))).map U8 := by rw [← putB_map, U8_of hr10]
      have hpl := putB_len (UInt8.ofNat (48 + r)) (show p < bs.length by omega)
      have hpd := putB_drop (UInt8.ofNat (48 + r)) (show p < bs.length by omega)
      generalize putB bs p (UInt8.ofNat (48 + r)) = bs' at hcells hpl hpd
      have hbt : (bs'.drop p).take (20 - p) = bs'.drop p := List.take_of_length_le (by rw [List.length_drop]; omega)
      by_cases hu10 : u < 10
      · have hq0 : q = 0 := by omega
        subst hq0
        simp [go_sem, h0, h3, h4, h5, h13, hv4, hh4, hrem, hquo, wa, wb, wq, wp, t0, t1, t2, t3, hbl, hcells, hn, hpl, maxLen20, isV_U8, bytes_td, nums_of, nums_d, wz, t4, hbt, hsz]
        have hend : digs 20 M = bs'.drop p := by
          have hru : r = u := by omega
          rw [hD, digs_small hu10, hpd, hru]; rfl
        refine PostR.ret ?_
        simp [go_sem, hT, hend]
      · have hq0 : ¬ (q : Int) = 0 := by omega
        have hq0' : ¬ q = 0 := by omega
        simp [go_sem, h0, h3, h4, h5, h13, hv4, hh4, hrem, hquo, wa, wb, wq, wp, t0, t1, t2, t3, t4, hbl, hcells, hq0, hq0', wp20]
        exact ⟨p, by omega, p, by omega, rfl, q, rfl, rfl, bs', rfl, hpl.trans hbl, by rw [hD, digs_more hu10, hpd, ← hr, ← hq]; simp, by omega⟩

end Go.Proofs.Ytahpcfdhlgcinaa
