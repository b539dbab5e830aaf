/- Contracts of chapter 01: the reference's Text. No condition. -/
import Derived.Test.YtahpcfdhlgcinaaN4
namespace Go.Proofs.Ytahpcfdhlgcinaa
open Go Go.Abs
set_option linter.unusedSimpArgs false
def dg (r : Nat) : UInt8 := UInt8.ofNat (48 + r)
def digs0 (f u : Nat) : Bytes := if u = 0 then [] else digs f u
theorem digs0_step {f u : Nat} (h : u ≠ 0) : digs0 (f + 1) u = digs0 f (u / 10) ++ [dg (u % 10)] := by
  unfold digs0
  rw [if_neg h]
  by_cases h10 : u < 10
  · rw [digs_small h10, if_pos (by omega), show u % 10 = u by omega]; rfl
  · rw [digs_more h10, if_neg (by omega)]; rfl
theorem digs_first (u : Nat) : digs 20 u = digs0 19 (u / 10) ++ [dg (u % 10)] := by
  by_cases h10 : u < 10
  · rw [digs_small h10, show u / 10 = 0 by omega, show u % 10 = u by omega]; rfl
  · rw [digs_more h10]
    unfold digs0
    rw [if_neg (by omega)]; rfl
theorem byteV (x : Int) : byteAV (.v (.int .u8 x)) = some x := rfl
theorem byte1 (x : Int) : [AV.v (.int .u8 x)].mapM byteAV = some [x] := rfl
theorem num1 {r : Nat} (h : r < 10) : strOfNums [48 + (r : Int)] = ⟨[dg r].toArray⟩ := by
  unfold strOfNums dg
  congr 2
theorem pow_step {f u : Nat} (h : u < 10 ^ (f + 1)) : u / 10 < 10 ^ f := by
  rw [Nat.pow_succ] at h
  exact Nat.div_lt_of_lt_mul (by omega)
set_option maxRecDepth 8000 in
set_option maxHeartbeats 4000000 in
theorem rtext_ac (n : Int) (hn1 : -9223372036854775808 ≤ n) (hn2 : n ≤ 9223372036854775807) : AC Try.prog 18 [I n] (S (textOf n)) := by
  refine AC.of_body Try.func18 rfl rfl Try.ntmps18 (congrArg Array.toList Try.results18) (by simp) (pures1 (pure_I _)) (pure_S _) fun w S' => AWp.of_vc [] ?_
  obtain ⟨M, hM⟩ : ∃ M, M = n.natAbs := ⟨_, rfl⟩
  have hM9 : M ≤ 9223372036854775808 := by omega
  obtain ⟨r0, hr0⟩ : ∃ r, r = M % 10 := ⟨_, rfl⟩
  obtain ⟨q0, hq0⟩ : ∃ q, q = M / 10 := ⟨_, rfl⟩
  have hr010 : r0 < 10 := by omega
  have e1 : (-(M : Int)).tmod 10 = -(r0 : Int) := by rw [Int.neg_tmod, tmod10, hr0]
  have e2 : (-(M : Int)).tdiv 10 = -(q0 : Int) := by rw [Int.neg_tdiv, tdiv10, hq0]
  have a1 : IntKind.i64.wrap (48 + (r0 : Int)) = 48 + (r0 : Int) := wrapOf (by omega) (by omega)
  have a2 : IntKind.u8.wrap (48 + (r0 : Int)) = 48 + (r0 : Int) := wrap_u8 (by omega) (by omega)
  have a3 : IntKind.i64.wrap (-(q0 : Int)) = -(q0 : Int) := wrapOf (by omega) (by omega)
  have hfirst := digs_first M
  rw [← hr0, ← hq0] at hfirst
  have hq19 : q0 < 10 ^ 19 := by
    have : (10 : Nat) ^ 19 = 10000000000000000000 := by decide
    omega
  by_cases hn : 0 < n
  · have hnn : ¬ n < 0 := by omega
    have hT : textOf n = digs 20 M := by unfold textOf; rw [if_neg hnn, hM]
    have hMn : n = (M : Int) := by omega
    have a0 : IntKind.i64.wrap (-n) = -(M : Int) := by rw [hMn]; exact wrapOf (by omega) (by omega)
    simp [go_sem, hn, a0, e1, e2, a1, a2, a3, byte1, byteV, num1 hr010]
    refine AWp.loop_vc [] (fun m s => ∃ (f u : Nat) (bs : Bytes), m = f ∧ f ≤ 19 ∧ u < 10 ^ f ∧ s.σ 0 = I n ∧ s.σ 3 = I (-(u : Int)) ∧ s.σ 4 = S bs ∧ bs.length + f ≤ 20 ∧ u ≤ 9223372036854775808 ∧ digs 20 M = digs0 f u ++ bs) 19 ⟨19, q0, [dg r0], rfl, by omega, hq19, by simp [go_sem], by simp [go_sem], by simp [go_sem], by simp, by omega, hfirst⟩ ?_
    rintro f s ⟨_, u, bs, rfl, hf, hu, h0, h3, h4, hbl, hub, hD⟩
    by_cases hu0 : u = 0
    · subst hu0
      have hE : digs 20 M = bs := by rw [hD]; rfl
      have hz : (-((0 : Nat) : Int)) = 0 := rfl
      rw [hz] at h3
      simp [go_sem, h0, h3, h4, hnn]
      refine PostR.ret ?_
      simp [go_sem, hT, hE]
    · cases f with
      | zero => simp at hu; omega
      | succ f =>
        obtain ⟨r, hr⟩ : ∃ r, r = u % 10 := ⟨_, rfl⟩
        obtain ⟨q, hq⟩ : ∃ q, q = u / 10 := ⟨_, rfl⟩
        have hr10 : r < 10 := by omega
        have g1 : (-(u : Int)).tmod 10 = -(r : Int) := by rw [Int.neg_tmod, tmod10, hr]
        have g2 : (-(u : Int)).tdiv 10 = -(q : Int) := by rw [Int.neg_tdiv, tdiv10, hq]
        have b1 : IntKind.i64.wrap (48 + (r : Int)) = 48 + (r : Int) := wrapOf (by omega) (by omega)
        have b2 : IntKind.u8.wrap (48 + (r : Int)) = 48 + (r : Int) := wrap_u8 (by omega) (by omega)
        have b3 : IntKind.i64.wrap (-(q : Int)) = -(q : Int) := wrapOf (by omega) (by omega)
        have hst := digs0_step (f := f) hu0
        rw [← hr, ← hq] at hst
        have hpw := pow_step hu
        rw [← hq] at hpw
        have hne : ¬ (-(u : Int)) = 0 := by omega
        have hsz : ¬ (9223372036854775807 : Int) < 1 + (bs.length : Int) := by omega
        simp [go_sem, h0, h3, h4, hu0, hne, g1, g2, b1, b2, b3, byte1, byteV, num1 hr10, hsz]
        exact ⟨f, by omega, by omega, q, hpw, rfl, by omega, by omega, by rw [hD, hst]; simp⟩
  · by_cases hnn : n < 0
    · have hT : textOf n = 45 :: digs 20 M := by unfold textOf; rw [if_pos hnn, hM]
      have hMn : n = -(M : Int) := by omega
      have e1' : n.tmod 10 = -(r0 : Int) := by rw [hMn, e1]
      have e2' : n.tdiv 10 = -(q0 : Int) := by rw [hMn, e2]
      simp [go_sem, hn, e1', e2', a1, a2, a3, byte1, byteV, num1 hr010]
      refine AWp.loop_vc [] (fun m s => ∃ (f u : Nat) (bs : Bytes), m = f ∧ f ≤ 19 ∧ u < 10 ^ f ∧ s.σ 0 = I n ∧ s.σ 3 = I (-(u : Int)) ∧ s.σ 4 = S bs ∧ bs.length + f ≤ 20 ∧ u ≤ 9223372036854775808 ∧ digs 20 M = digs0 f u ++ bs) 19 ⟨19, q0, [dg r0], rfl, by omega, hq19, by simp [go_sem], by simp [go_sem], by simp [go_sem], by simp, by omega, hfirst⟩ ?_
      rintro f s ⟨_, u, bs, rfl, hf, hu, h0, h3, h4, hbl, hub, hD⟩
      by_cases hu0 : u = 0
      · subst hu0
        have hE : digs 20 M = bs := by rw [hD]; rfl
        have hz : (-((0 : Nat) : Int)) = 0 := rfl
        rw [hz] at h3
        have hsz : ¬ (9223372036854775807 : Int) < 1 + (bs.length : Int) := by omega
        simp [go_sem, h0, h3, h4, hnn, hsz]
        refine PostR.ret ?_
        simp [go_sem, hT, hE]
      · cases f with
        | zero => simp at hu; omega
        | succ f =>
          obtain ⟨r, hr⟩ : ∃ r, r = u % 10 := ⟨_, rfl⟩
          obtain ⟨q, hq⟩ : ∃ q, q = u / 10 := ⟨_, rfl⟩
          have hr10 : r < 10 := by omega
          have g1 : (-(u : Int)).tmod 10 = -(r : Int) := by rw [Int.neg_tmod, tmod10, hr]
          have g2 : (-(u : Int)).tdiv 10 = -(q : Int) := by rw [Int.neg_tdiv, tdiv10, hq]
          have b1 : IntKind.i64.wrap (48 + (r : Int)) = 48 + (r : Int) := wrapOf (by omega) (by omega)
          have b2 : IntKind.u8.wrap (48 + (r : Int)) = 48 + (r : Int) := wrap_u8 (by omega) (by omega)
          have b3 : IntKind.i64.wrap (-(q : Int)) = -(q : Int) := wrapOf (by omega) (by omega)
          have hst := digs0_step (f := f) hu0
          rw [← hr, ← hq] at hst
          have hpw := pow_step hu
          rw [← hq] at hpw
          have hne : ¬ (-(u : Int)) = 0 := by omega
          have hsz : ¬ (9223372036854775807 : Int) < 1 + (bs.length : Int) := by omega
          simp [go_sem, h0, h3, h4, hu0, hne, g1, g2, b1, b2, b3, byte1, byteV, num1 hr10, hsz]
          exact ⟨f, by omega, by omega, q, hpw, rfl, by omega, by omega, by rw [hD, hst]; simp⟩
    · have hT : textOf n = digs 20 M := by unfold textOf; rw [if_neg hnn, hM]
      have hMn : n = -(M : Int) := by omega
      have e1' : n.tmod 10 = -(r0 : Int) := by rw [hMn, e1]
      have e2' : n.tdiv 10 = -(q0 : Int) := by rw [hMn, e2]
      simp [go_sem, hn, e1', e2', a1, a2, a3, byte1, byteV, num1 hr010]
      refine AWp.loop_vc [] (fun m s => ∃ (f u : Nat) (bs : Bytes), m = f ∧ f ≤ 19 ∧ u < 10 ^ f ∧ s.σ 0 = I n ∧ s.σ 3 = I (-(u : Int)) ∧ s.σ 4 = S bs ∧ bs.length + f ≤ 20 ∧ u ≤ 9223372036854775808 ∧ digs 20 M = digs0 f u ++ bs) 19 ⟨19, q0, [dg r0], rfl, by omega, hq19, by simp [go_sem], by simp [go_sem], by simp [go_sem], by simp, by omega, hfirst⟩ ?_
      rintro f s ⟨_, u, bs, rfl, hf, hu, h0, h3, h4, hbl, hub, hD⟩
      by_cases hu0 : u = 0
      · subst hu0
        have hE : digs 20 M = bs := by rw [hD]; rfl
        have hz : (-((0 : Nat) : Int)) = 0 := rfl
        rw [hz] at h3
        simp [go_sem, h0, h3, h4, hnn]
        refine PostR.ret ?_
        simp [go_sem, hT, hE]
      · cases f with
        | zero => simp at hu; omega
        | succ f =>
          obtain ⟨r, hr⟩ : ∃ r, r = u % 10 := ⟨_, rfl⟩
          obtain ⟨q, hq⟩ : ∃ q, q = u / 10 := ⟨_, rfl⟩
          have hr10 : r < 10 := by omega
          have g1 : (-(u : Int)).tmod 10 = -(r : Int) := by rw [Int.neg_tmod, tmod10, hr]
          have g2 : (-(u : Int)).tdiv 10 = -(q : Int) := by rw [Int.neg_tdiv, tdiv10, hq]
          have b1 : IntKind.i64.wrap (48 + (r : Int)) = 48 + (r : Int) := wrapOf (by omega) (by omega)
          have b2 : IntKind.u8.wrap (48 + (r : Int)) = 48 + (r : Int) := wrap_u8 (by omega) (by omega)
          have b3 : IntKind.i64.wrap (-(q : Int)) = -(q : Int) := wrapOf (by omega) (by omega)
          have hst := digs0_step (f := f) hu0
          rw [← hr, ← hq] at hst
          have hpw := pow_step hu
          rw [← hq] at hpw
          have hne : ¬ (-(u : Int)) = 0 := by omega
          have hsz : ¬ (9223372036854775807 : Int) < 1 + (bs.length : Int) := by omega
          simp [go_sem, h0, h3, h4, hu0, hne, g1, g2, b1, b2, b3, byte1, byteV, num1 hr10, hsz]
          exact ⟨f, by omega, by omega, q, hpw, rfl, by omega, by omega, by rw [hD, hst]; simp⟩

end Go.Proofs.Ytahpcfdhlgcinaa
