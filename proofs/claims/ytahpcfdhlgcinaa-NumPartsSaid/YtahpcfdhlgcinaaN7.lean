/- Contracts of chapter 01: both Parse. No condition. -/
import Derived.Test.YtahpcfdhlgcinaaN6
namespace Go.Proofs.Ytahpcfdhlgcinaa
open Go Go.Abs
set_option linter.unusedSimpArgs false
theorem neg_iff {s : Bytes} (h : 0 < s.length) : negS s = true ↔ s[0].toNat = 45 := by
  cases s with
  | nil => simp at h
  | cons b s =>
    show (b == 45) = true ↔ b.toNat = 45
    rw [beq_iff_eq]
    constructor
    · intro hb; subst hb; rfl
    · intro hb
      exact UInt8.toNat_inj.1 hb
theorem neg_take {s : Bytes} {q : Nat} (h : 0 < q) : negS (s.take q) = negS s := by
  cases s with
  | nil => simp
  | cons b s =>
    cases q with
    | zero => omega
    | succ q => rfl
theorem body_snoc {l : Bytes} (h : 0 < l.length) (x : UInt8) : bodyS (l ++ [x]) = bodyS l ++ [x] := by
  cases l with
  | nil => simp at h
  | cons b l =>
    unfold bodyS
    have : negS (b :: l ++ [x]) = negS (b :: l) := rfl
    rw [this]
    split <;> rfl
theorem body_skip {s : Bytes} {q : Nat} (h : q < s.length) (h0 : q = 0) (h45 : s[q].toNat = 45) : bodyS (s.take (q + 1)) = [] := by
  subst h0
  cases s with
  | nil => simp at h
  | cons b s =>
    have hb : b = 45 := UInt8.toNat_inj.1 h45
    subst hb; rfl
theorem body_step {s : Bytes} {q : Nat} (h : q < s.length) (hn : ¬ (q = 0 ∧ s[q].toNat = 45)) : bodyS (s.take (q + 1)) = bodyS (s.take q) ++ [s[q]] := by
  rw [List.take_succ_eq_append_getElem h]
  cases q with
  | zero =>
    have h45 : ¬ s[0].toNat = 45 := fun hh => hn ⟨rfl, hh⟩
    have : negS [s[0]] = false := by
      show (s[0] == 45) = false
      simp only [beq_eq_false_iff_ne, ne_eq]
      intro hb; exact h45 (by rw [hb]; rfl)
    simp only [List.take_zero, List.nil_append]
    unfold bodyS
    rw [this]; rfl
  | succ q => exact body_snoc (by rw [List.length_take]; omega) _
theorem body_mem {s : Bytes} {q : Nat} (h : q < s.length) (hn : ¬ (q = 0 ∧ s[q].toNat = 45)) : s[q] ∈ bodyS s := by
  unfold bodyS
  split
  · rename_i hneg
    cases q with
    | zero => exact (hn ⟨rfl, (neg_iff h).1 hneg⟩).elim
    | succ q =>
      cases s with
      | nil => simp at h
      | cons b s => simp
  · exact List.getElem_mem h
theorem ba_idx (s : Bytes) (q : Nat) (h : q < (⟨s.toArray⟩ : ByteArray).size) : (⟨s.toArray⟩ : ByteArray)[q] = s[q]'(by simpa [ByteArray.size] using h) := rfl
theorem dig_iff {b : UInt8} : isDig b = true ↔ 48 ≤ b.toNat ∧ b.toNat ≤ 57 := by unfold isDig; exact decide_eq_true_iff
set_option maxRecDepth 8000 in
set_option maxHeartbeats 4000000 in
theorem within_ac (n : Int) : AC Try.prog 33 [I n] (B (decide (-1000000000000 ≤ n ∧ n ≤ 1000000000000))) := by
  refine AC.of_body Try.func33 rfl rfl Try.ntmps33 (congrArg Array.toList Try.results33) (by simp) (pures1 (pure_I _)) (pure_B _) fun w S' => AWp.of_vc [] ?_
  simp [go_sem]
  refine AWp.loop_vc [] (fun m s => ∃ q : Nat, q ≤ 2 ∧ m = 2 - q ∧ s.σ 0 = I n ∧ s.σ 5 = ints [-1000000000000, 1000000000000] ∧ s.σ 6 = I 2 ∧ s.σ 7 = I q ∧ (1 ≤ q → -1000000000000 ≤ n) ∧ (2 ≤ q → n ≤ 1000000000000)) 2 ⟨0, by omega, rfl, by simp [go_sem], by simp [go_sem], by simp [go_sem], by simp [go_sem], fun h => by omega, fun h => by omega⟩ ?_
  rintro m s ⟨q, hq, rfl, h0, h5, h6, h7, hl, hh⟩
  have hq3 : q = 0 ∨ q = 1 ∨ q = 2 := by omega
  rcases hq3 with rfl | rfl | rfl
  · by_cases hb : n < -1000000000000
    · simp [go_sem, h0, h5, h6, h7, hb]
      refine PostR.ret ?_
      simp [go_sem]; omega
    · have w1 : IntKind.i64.wrap 1 = 1 := wrapOf (by omega) (by omega)
      simp [go_sem, h0, h5, h6, h7, hb, w1]
      exact ⟨1, by omega, 1, by omega, rfl, rfl, fun _ => by omega, fun h => by omega⟩
  · have hl := hl (by omega)
    by_cases hb : 1000000000000 < n
    · have hb2 : ¬ n < -1000000000000 := by omega
      simp [go_sem, h0, h5, h6, h7, hb, hb2]
      refine PostR.ret ?_
      simp [go_sem]; omega
    · have w1 : IntKind.i64.wrap (1 + 1) = 2 := wrapOf (by omega) (by omega)
      have w2 : IntKind.i64.wrap 2 = 2 := wrapOf (by omega) (by omega)
      simp [go_sem, h0, h5, h6, h7, hb, w1, w2]
      exact ⟨2, by omega, by omega, rfl, fun _ => by omega, fun h => by omega⟩
  · have hl := hl (by omega)
    have hh := hh (by omega)
    simp [go_sem, h0, h5, h6, h7]
    refine PostR.ret ?_
    simp [go_sem]; omega

set_option maxRecDepth 8000 in
set_option maxHeartbeats 4000000 in
theorem parse_ac (s : Bytes) : AC Try.prog 17 [S s] (optN (parseOf s)) := by
  refine AC.of_body Try.func17 rfl rfl Try.ntmps17 (congrArg Array.toList Try.results17) (by simp) (pures1 (pure_S _)) (pureR_optN _) fun w S' => AWp.of_vc [] ?_
  by_cases hs0 : s.length = 0
  · have hp := parse_len (.inl hs0)
    have hs : s = [] := List.eq_nil_of_length_eq_zero hs0
    subst hs
    simp [go_sem]
    refine PostR.ret ?_
    simp [go_sem, hp]
  by_cases hs14 : 14 < s.length
  · have hp := parse_len (s := s) (.inr (.inr (.inr hs14)))
    have k1 : ¬ (s.length : Int) = 0 := by omega
    have k2 : (14 : Int) < s.length := by omega
    have k3 : ¬ s = [] := fun h => hs0 (by rw [h]; rfl)
    simp [go_sem, k1, k2, k3]
    refine PostR.ret ?_
    simp [go_sem, hp]
  have k1 : ¬ (s.length : Int) = 0 := by omega
  have k2 : ¬ (14 : Int) < s.length := by omega
  have k3 : ¬ s = [] := fun h => hs0 (by rw [h]; rfl)
  have hm : s.length ≤ maxLen := by unfold maxLen; omega
  simp [go_sem, k1, k2, k3]
  refine AWp.loop_vc [] (fun m st => ∃ q acc : Nat, q ≤ s.length ∧ m = s.length - q ∧ st.σ 0 = S s ∧ st.σ 4 = I acc ∧ st.σ 16 = I s.length ∧ st.σ 17 = I q ∧ acc = foldD 0 (bodyS (s.take q)) ∧ (bodyS (s.take q)).all isDig = true ∧ acc < 10 ^ q) s.length ⟨0, 0, by simp [go_sem, bodyS, negS, foldD]⟩ ?_
  rintro m st ⟨q, acc, hq, rfl, h0, h4, h16, h17, hacc, hdig, hlt10⟩
  by_cases hlt : q < s.length
  · have hpow : acc < 10 ^ 13 := Nat.lt_of_lt_of_le hlt10 (Nat.pow_le_pow_right (by omega) (by omega))
    rw [pow13] at hpow
    by_cases hskip : q = 0 ∧ s[q].toNat = 45
    · obtain ⟨hq0, h45⟩ := hskip
      have hsk := body_skip hlt hq0 h45
      subst hq0
      have c45 : ((s[0].toNat : Nat) : Int) = 45 := by omega
      have w01 : IntKind.i64.wrap 1 = 1 := wrapOf (by omega) (by omega)
      have hz : acc = 0 := by rw [hacc]; rfl
      subst hz
      simp [go_sem, h0, h4, h16, h17, hlt, ba_idx, c45, w01]
      exact ⟨s.length - 1, by omega, 1, by omega, rfl, 0, rfl, rfl, by rw [hsk]; rfl, fun x hx => (by rw [hsk] at hx; cases hx), by omega⟩
    · have hmem := body_mem hlt hskip
      obtain ⟨c, hc⟩ : ∃ c, s[q].toNat = c := ⟨_, rfl⟩
      have hc256 : c < 256 := by rw [← hc]; exact UInt8.toNat_lt _
      by_cases hq0 : q = 0
      · subst hq0
        have c45 : ¬ (c : Int) = 45 := fun h => hskip ⟨rfl, by omega⟩
        have w01 : IntKind.i64.wrap 1 = 1 := wrapOf (by omega) (by omega)
        by_cases hlo : (c : Int) < 48
        · have hnd : isDig s[0] = false := by rw [← Bool.not_eq_true, dig_iff, hc]; omega
          have hbad := parse_dig (s := s) (by rw [List.all_eq_false]; exact ⟨_, hmem, by rw [hnd]; exact Bool.false_ne_true⟩)
          simp [go_sem, h0, h4, h16, h17, hlt, ba_idx, c45, hc, hlo]
          refine PostR.ret ?_
          simp [go_sem, hbad]
        by_cases hhi : (57 : Int) < c
        · have hnd : isDig s[0] = false := by rw [← Bool.not_eq_true, dig_iff, hc]; omega
          have hbad := parse_dig (s := s) (by rw [List.all_eq_false]; exact ⟨_, hmem, by rw [hnd]; exact Bool.false_ne_true⟩)
          simp [go_sem, h0, h4, h16, h17, hlt, ba_idx, c45, hc, hlo, hhi]
          refine PostR.ret ?_
          simp [go_sem, hbad]
        have hlo' : (48 : Int) ≤ c := by omega
        have hhi' : (c : Int) ≤ 57 := by omega
        have hd : isDig s[0] = true := by rw [dig_iff, hc]; omega
        have w1 : IntKind.i64.wrap (10 * (acc : Int)) = 10 * (acc : Int) := wrapOf (by omega) (by omega)
        have w2 : IntKind.u8.wrap ((c : Int) - 48) = (c : Int) - 48 := wrap_u8 (by omega) (by omega)
        have w3 : IntKind.i64.wrap ((c : Int) - 48) = (c : Int) - 48 := wrapOf (by omega) (by omega)
        have w4 : IntKind.i64.wrap (10 * (acc : Int) + ((c : Int) - 48)) = 10 * (acc : Int) + ((c : Int) - 48) := wrapOf (by omega) (by omega)
        have hstep := body_step hlt hskip
        simp [go_sem, h0, h4, h16, h17, hlt, ba_idx, c45, hc, hlo, hhi, hlo', hhi', w1, w2, w3, w4, w01]
        refine ⟨s.length - (0 + 1), by omega, 0 + 1, by omega, by omega, 10 * acc + (c - 48), by omega, by first | rfl | omega, by rw [hstep, foldD_snoc, hc, hacc], fun x hx => ?_, by have := Nat.pow_succ 10 0; omega⟩
        rw [hstep] at hx
        rcases List.mem_append.1 hx with hx | hx
        · exact List.all_eq_true.1 hdig x hx
        · rw [List.mem_singleton] at hx; rw [hx]; exact hd
      · by_cases hlo : (c : Int) < 48
        · have hnd : isDig s[q] = false := by rw [← Bool.not_eq_true, dig_iff, hc]; omega
          have hbad := parse_dig (s := s) (by rw [List.all_eq_false]; exact ⟨_, hmem, by rw [hnd]; exact Bool.false_ne_true⟩)
          simp [go_sem, h0, h4, h16, h17, hlt, ba_idx, hq0, hc, hlo]
          refine PostR.ret ?_
          simp [go_sem, hbad]
        by_cases hhi : (57 : Int) < c
        · have hnd : isDig s[q] = false := by rw [← Bool.not_eq_true, dig_iff, hc]; omega
          have hbad := parse_dig (s := s) (by rw [List.all_eq_false]; exact ⟨_, hmem, by rw [hnd]; exact Bool.false_ne_true⟩)
          simp [go_sem, h0, h4, h16, h17, hlt, ba_idx, hq0, hc, hlo, hhi]
          refine PostR.ret ?_
          simp [go_sem, hbad]
        have hlo' : (48 : Int) ≤ c := by omega
        have hhi' : (c : Int) ≤ 57 := by omega
        have hd : isDig s[q] = true := by rw [dig_iff, hc]; omega
        have w1 : IntKind.i64.wrap (10 * (acc : Int)) = 10 * (acc : Int) := wrapOf (by omega) (by omega)
        have w2 : IntKind.u8.wrap ((c : Int) - 48) = (c : Int) - 48 := wrap_u8 (by omega) (by omega)
        have w3 : IntKind.i64.wrap ((c : Int) - 48) = (c : Int) - 48 := wrapOf (by omega) (by omega)
        have w4 : IntKind.i64.wrap (10 * (acc : Int) + ((c : Int) - 48)) = 10 * (acc : Int) + ((c : Int) - 48) := wrapOf (by omega) (by omega)
        have hstep := body_step hlt hskip
        simp [go_sem, h0, h4, h16, h17, hlt, ba_idx, hq0, hc, hlo, hhi, hlo', hhi', w1, w2, w3, w4, wrap_succ hlt hm]
        refine ⟨s.length - (q + 1), by omega, q + 1, by omega, by omega, 10 * acc + (c - 48), by omega, by first | rfl | omega, by rw [hstep, foldD_snoc, hc, hacc], fun x hx => ?_, by have := Nat.pow_succ 10 q; omega⟩
        rw [hstep] at hx
        rcases List.mem_append.1 hx with hx | hx
        · exact List.all_eq_true.1 hdig x hx
        · rw [List.mem_singleton] at hx; rw [hx]; exact hd
  · have hql : q = s.length := by omega
    have hpos : 0 < s.length := by omega
    rw [List.take_of_length_le (by omega)] at hacc hdig
    have hpv := parse_val hdig
    have hpow : acc < 10 ^ 14 := Nat.lt_of_lt_of_le hlt10 (Nat.pow_le_pow_right (by omega) (by omega))
    have hp14 : (10 : Nat) ^ 14 = 100000000000000 := by decide
    rw [hp14] at hpow
    obtain ⟨N, hN⟩ : ∃ N, N = numS s := ⟨_, rfl⟩
    rw [← hN] at hpv
    by_cases hneg : s[0].toNat = 45
    · have hng := (neg_iff hpos).2 hneg
      have c45 : ((s[0].toNat : Nat) : Int) = 45 := by omega
      have hNv : -(acc : Int) = N := by rw [hN, hacc]; unfold numS; rw [hng]; rfl
      have w1 : IntKind.i64.wrap (-(acc : Int)) = N := by rw [hNv]; exact wrapOf (by omega) (by omega)
      simp [go_sem, h0, h4, h16, h17, hlt, ba_idx, c45, w1, hpos]
      refine CallSem.pure (within_ac N) (by simp [go_sem]) ?_
      by_cases hw : -1000000000000 ≤ N ∧ N ≤ 1000000000000
      · have hwd : decide (-1000000000000 ≤ N ∧ N ≤ 1000000000000) = true := decide_eq_true hw
        rw [hwd]
        simp [go_sem, h0]
        refine CallSem.pure (text_ac N (by omega) (by omega)) (by simp [go_sem]) ?_
        by_cases ht : textOf N = s
        · have hres : parseOf s = some N := by rw [hpv, if_pos (by unfold fitN; rw [decide_eq_true hw, decide_eq_true ht]; rfl)]
          simp [go_sem, h0, ht]
          refine PostR.ret ?_
          simp [go_sem, hres]
        · have hres : parseOf s = none := by rw [hpv, if_neg (by unfold fitN; rw [decide_eq_false ht]; simp)]
          have ht2 : (textOf N == s) = false := by simpa using ht
          simp [go_sem, h0, ht, ht2]
          refine PostR.ret ?_
          simp [go_sem, hres]
      · have hwd : decide (-1000000000000 ≤ N ∧ N ≤ 1000000000000) = false := decide_eq_false hw
        have hres : parseOf s = none := by rw [hpv, if_neg (by unfold fitN; rw [hwd]; simp)]
        rw [hwd]
        simp [go_sem, h0]
        refine PostR.ret ?_
        simp [go_sem, hres]
    · have hng : negS s = false := by rw [← Bool.not_eq_true, neg_iff hpos]; exact hneg
      have c45 : ¬ ((s[0].toNat : Nat) : Int) = 45 := by omega
      have hNv : (acc : Int) = N := by rw [hN, hacc]; unfold numS; rw [hng]; rfl
      rw [hNv] at h4
      simp [go_sem, h0, h4, h16, h17, hlt, ba_idx, c45, hneg, hpos]
      refine CallSem.pure (within_ac N) (by simp [go_sem]) ?_
      by_cases hw : -1000000000000 ≤ N ∧ N ≤ 1000000000000
      · have hwd : decide (-1000000000000 ≤ N ∧ N ≤ 1000000000000) = true := decide_eq_true hw
        rw [hwd]
        simp [go_sem, h0, h4]
        refine CallSem.pure (text_ac N (by omega) (by omega)) (by simp [go_sem]) ?_
        by_cases ht : textOf N = s
        · have hres : parseOf s = some N := by rw [hpv, if_pos (by unfold fitN; rw [decide_eq_true hw, decide_eq_true ht]; rfl)]
          simp [go_sem, h0, h4, ht]
          refine PostR.ret ?_
          simp [go_sem, hres]
        · have hres : parseOf s = none := by rw [hpv, if_neg (by unfold fitN; rw [decide_eq_false ht]; simp)]
          have ht2 : (textOf N == s) = false := by simpa using ht
          simp [go_sem, h0, h4, ht, ht2]
          refine PostR.ret ?_
          simp [go_sem, hres]
      · have hwd : decide (-1000000000000 ≤ N ∧ N ≤ 1000000000000) = false := decide_eq_false hw
        have hres : parseOf s = none := by rw [hpv, if_neg (by unfold fitN; rw [hwd]; simp)]
        rw [hwd]
        simp [go_sem, h0, h4]
        refine PostR.ret ?_
        simp [go_sem, hres]

end Go.Proofs.Ytahpcfdhlgcinaa
