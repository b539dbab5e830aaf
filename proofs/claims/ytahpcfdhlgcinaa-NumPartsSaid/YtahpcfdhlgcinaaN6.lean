/- Plain laws of chapter 01: what a text reads as. No condition. -/
import Derived.Test.YtahpcfdhlgcinaaN5
namespace Go.Proofs.Ytahpcfdhlgcinaa
open Go Go.Abs
def isDig (b : UInt8) : Bool := decide (48 ≤ b.toNat ∧ b.toNat ≤ 57)
def foldD (a : Nat) (s : Bytes) : Nat := s.foldl (fun n b => 10 * n + (b.toNat - 48)) a
def negS : Bytes → Bool
  | b :: _ => b == 45
  | [] => false
def bodyS (s : Bytes) : Bytes := if negS s = true then s.drop 1 else s
def numS (s : Bytes) : Int := if negS s = true then -(foldD 0 (bodyS s) : Int) else (foldD 0 (bodyS s) : Int)
def valS (s : Bytes) : Option Int := if (bodyS s).all isDig = true then some (numS s) else none
def fitN (s : Bytes) (n : Int) : Bool := decide (-1000000000000 ≤ n ∧ n ≤ 1000000000000) && decide (textOf n = s)
def parseOf (s : Bytes) : Option Int :=
  match valS s with
  | some n => if fitN s n = true then some n else none
  | none => none
theorem foldD_snoc (a : Nat) (s : Bytes) (b : UInt8) : foldD a (s ++ [b]) = 10 * foldD a s + (b.toNat - 48) := by
  unfold foldD; rw [List.foldl_append]; rfl
theorem dg_nat {r : Nat} (h : r < 10) : (UInt8.ofNat (48 + r)).toNat = 48 + r := by simp [UInt8.toNat_ofNat']; omega
theorem digs_facts : ∀ (f m : Nat), 0 < f → m < 10 ^ f → (digs f m).all isDig = true ∧ foldD 0 (digs f m) = m ∧ 0 < (digs f m).length ∧ (digs f m).length ≤ f
  | 0, m, h, _ => by omega
  | f + 1, m, _, hm => by
    by_cases h10 : m < 10
    · rw [digs_small h10]
      refine ⟨by simp [isDig, dg_nat h10]; omega, by show 10 * 0 + ((UInt8.ofNat (48 + m)).toNat - 48) = m; rw [dg_nat h10]; omega, by simp, by simp⟩
    · have hf : 0 < f := by
        rcases Nat.eq_zero_or_pos f with h | h
        · subst h; simp at hm; omega
        · exact h
      obtain ⟨h1, h2, h3, h4⟩ := digs_facts f (m / 10) hf (pow_step hm)
      have hr : m % 10 < 10 := by omega
      rw [digs_more h10]
      refine ⟨by rw [List.all_append, h1]; simp [isDig, dg_nat hr]; omega, by rw [foldD_snoc, h2, dg_nat hr]; omega, by simp, by simp; omega⟩
/-- Fewer digits will do. -/
theorem digs_fuel : ∀ (f g m : Nat), 0 < f → m < 10 ^ f → digs (f + g) m = digs f m
  | 0, g, m, h, _ => by omega
  | f + 1, g, m, _, hm => by
    rw [show f + 1 + g = (f + g) + 1 by omega]
    by_cases h10 : m < 10
    · rw [digs_small h10, digs_small h10]
    · have hf : 0 < f := by
        rcases Nat.eq_zero_or_pos f with h | h
        · subst h; simp at hm; omega
        · exact h
      rw [digs_more h10, digs_more h10, digs_fuel f g (m / 10) hf (pow_step hm)]
theorem dig_not {s : Bytes} (h : s.all isDig = true) : negS s = false := by
  cases s with
  | nil => rfl
  | cons b s =>
    rw [List.all_cons, Bool.and_eq_true] at h
    have h1 := h.1
    unfold isDig at h1
    simp only [decide_eq_true_eq] at h1
    show (b == 45) = false
    simp only [beq_eq_false_iff_ne, ne_eq]
    intro hb
    subst hb
    have : (45 : UInt8).toNat = 45 := rfl
    omega
/-- A number is read off its text. -/
theorem val_text {n : Int} (h : n.natAbs < 10 ^ 20) : valS (textOf n) = some n := by
  obtain ⟨h1, h2, h3, h4⟩ := digs_facts 20 n.natAbs (by omega) h
  by_cases hn : n < 0
  · have hT : textOf n = 45 :: digs 20 n.natAbs := by unfold textOf; rw [if_pos hn]
    have hneg : negS (textOf n) = true := by rw [hT]; rfl
    have hbody : bodyS (textOf n) = digs 20 n.natAbs := by unfold bodyS; rw [if_pos hneg, hT]; rfl
    unfold valS numS
    rw [hbody, hneg, h1, h2]
    simp only [if_true]
    congr 1
    omega
  · have hT : textOf n = digs 20 n.natAbs := by unfold textOf; rw [if_neg hn]
    have hneg : negS (textOf n) = false := by rw [hT]; exact dig_not h1
    have hbody : bodyS (textOf n) = digs 20 n.natAbs := by unfold bodyS; rw [hneg, hT]; rfl
    unfold valS numS
    rw [hbody, hneg, h1, h2]
    simp only [if_true, Bool.false_eq_true, if_false]
    congr 1
    omega
theorem pow20 : (10 : Nat) ^ 20 = 100000000000000000000 := by decide
theorem pow13 : (10 : Nat) ^ 13 = 10000000000000 := by decide
/-- What is a number's text is no longer than 14, and its body no longer than 13. -/
theorem text_len {n : Int} (h1 : -1000000000000 ≤ n) (h2 : n ≤ 1000000000000) : 0 < (textOf n).length ∧ 0 < (bodyS (textOf n)).length ∧ (bodyS (textOf n)).length ≤ 13 ∧ (textOf n).length ≤ 14 := by
  have hm : n.natAbs < 10 ^ 13 := by rw [pow13]; omega
  have hd : digs 20 n.natAbs = digs 13 n.natAbs := digs_fuel 13 7 _ (by omega) hm
  obtain ⟨g1, g2, g3, g4⟩ := digs_facts 13 n.natAbs (by omega) hm
  by_cases hn : n < 0
  · have hT : textOf n = 45 :: digs 13 n.natAbs := by unfold textOf; rw [if_pos hn, hd]
    have hneg : negS (textOf n) = true := by rw [hT]; rfl
    have hbody : bodyS (textOf n) = digs 13 n.natAbs := by unfold bodyS; rw [if_pos hneg, hT]; rfl
    rw [hbody, hT]
    simp only [List.length_cons]
    omega
  · have hT : textOf n = digs 13 n.natAbs := by unfold textOf; rw [if_neg hn, hd]
    have hneg : negS (textOf n) = false := by rw [hT]; exact dig_not g1
    have hbody : bodyS (textOf n) = digs 13 n.natAbs := by unfold bodyS; rw [hneg, hT]; rfl
    rw [hbody, hT]
    omega
theorem parse_text {n : Int} (h : n.natAbs < 10 ^ 20) : parseOf (textOf n) = if -1000000000000 ≤ n ∧ n ≤ 1000000000000 then some n else none := by
  unfold parseOf
  rw [val_text h]
  simp only [fitN, decide_true, Bool.and_true, decide_eq_true_eq]
theorem parse_some {s : Bytes} {n : Int} (h : parseOf s = some n) : -1000000000000 ≤ n ∧ n ≤ 1000000000000 ∧ textOf n = s := by
  unfold parseOf at h
  split at h
  · split at h
    · rename_i hf
      cases h
      simp only [fitN, Bool.and_eq_true, decide_eq_true_eq] at hf
      exact ⟨hf.1.1, hf.1.2, hf.2⟩
    · cases h
  · cases h
theorem parse_len {s : Bytes} (h : s.length = 0 ∨ (bodyS s).length = 0 ∨ 13 < (bodyS s).length ∨ 14 < s.length) : parseOf s = none := by
  cases hp : parseOf s with
  | none => rfl
  | some n =>
    obtain ⟨h1, h2, h3⟩ := parse_some hp
    have := text_len h1 h2
    rw [h3] at this
    omega
theorem parse_dig {s : Bytes} (h : (bodyS s).all isDig = false) : parseOf s = none := by
  unfold parseOf valS
  rw [h]; rfl
theorem parse_val {s : Bytes} (h : (bodyS s).all isDig = true) : parseOf s = if fitN s (numS s) = true then some (numS s) else none := by
  unfold parseOf valS
  rw [h]; rfl
theorem fold_lt : ∀ (s : Bytes), s.all isDig = true → foldD 0 s < 10 ^ s.length := by
  intro s
  have key : ∀ (s : Bytes) (a k : Nat), a < 10 ^ k → s.all isDig = true → foldD a s < 10 ^ (k + s.length) := by
    intro s
    induction s with
    | nil => intro a k h _; simpa [foldD] using h
    | cons b s ih =>
      intro a k h hd
      rw [List.all_cons, Bool.and_eq_true] at hd
      have hb := hd.1
      unfold isDig at hb
      simp only [decide_eq_true_eq] at hb
      have := ih (10 * a + (b.toNat - 48)) (k + 1) (by rw [Nat.pow_succ]; omega) hd.2
      rw [List.length_cons, show k + (s.length + 1) = k + 1 + s.length by omega]
      exact this
  intro h
  simpa using key s 0 0 (by simp) h
end Go.Proofs.Ytahpcfdhlgcinaa
