/- Contracts of chapter 01: the reference's Parse. No condition. -/
import Derived.Test.YtahpcfdhlgcinaaN7
namespace Go.Proofs.Ytahpcfdhlgcinaa
open Go Go.Abs
set_option linter.unusedSimpArgs false
set_option maxRecDepth 8000 in
set_option maxHeartbeats 4000000 in
theorem rparse_ac (s : Bytes) : AC Try.prog 19 [S s] (optN (parseOf s)) := by
  refine AC.of_body Try.func19 rfl rfl Try.ntmps19 (congrArg Array.toList Try.results19) (by simp) (pures1 (pure_S _)) (pureR_optN _) fun w S' => AWp.of_vc [] ?_
  by_cases hs0 : s.length = 0
  · have hp := parse_len (.inl hs0)
    have hs : s = [] := List.eq_nil_of_length_eq_zero hs0
    subst hs
    simp [go_sem]
    refine PostR.ret ?_
    simp [go_sem, hp]
  have hpos : 0 < s.length := by omega
  have k3 : ¬ s = [] := fun h => hs0 (by rw [h]; rfl)
  have kp : (0 : Int) < s.length := by omega
  have w13 : IntKind.i64.wrap 14 = 14 := wrapOf (by omega) (by omega)
  have w130 : IntKind.i64.wrap 13 = 13 := wrapOf (by omega) (by omega)
  by_cases hneg : s[0].toNat = 45
  · have hng := (neg_iff hpos).2 hneg
    have hbl : (bodyS s).length = s.length - 1 := by unfold bodyS; rw [if_pos hng, List.length_drop]
    have c45 : ((s[0].toNat : Nat) : Int) = 45 := by omega
    have hsk1 : bodyS (s.take 1) = [] := body_skip hpos rfl hneg
    by_cases hl1 : s.length = 1
    · have hp := parse_len (s := s) (.inr (.inl (by omega)))
      have k1 : (s.length : Int) = 1 := by omega
      simp [go_sem, k3, kp, hpos, ba_idx, c45, k1, hl1]
      refine PostR.ret ?_
      simp [go_sem, hp]
    have k1 : ¬ (s.length : Int) = 1 := by omega
    by_cases hl14 : (14 : Int) < s.length
    · have hp := parse_len (s := s) (.inr (.inr (.inl (by omega))))
      simp [go_sem, k3, kp, hpos, ba_idx, c45, k1, hl1, w13, hl14]
      refine PostR.ret ?_
      simp [go_sem, hp]
    have hm : s.length ≤ maxLen := by unfold maxLen; omega
    simp [go_sem, k3, kp, hpos, ba_idx, c45, k1, hl1, w13, hl14]
    refine AWp.loop_vc [] (fun m st => ∃ q acc : Nat, 1 ≤ q ∧ q ≤ s.length ∧ m = s.length - q ∧ st.σ 0 = S s ∧ st.σ 4 = I 1 ∧ st.σ 5 = I acc ∧ st.σ 6 = I q ∧ acc = foldD 0 (bodyS (s.take q)) ∧ (bodyS (s.take q)).all isDig = true ∧ acc < 10 ^ (q - 1)) (s.length - 1) ⟨1, 0, by simp [go_sem, hsk1, foldD]; omega⟩ ?_
    rintro m st ⟨q, acc, hat, hq, rfl, h0, h4, h5, h6, hacc, hdig, hlt10⟩
    have hpow : acc < 10 ^ 13 := Nat.lt_of_lt_of_le hlt10 (Nat.pow_le_pow_right (by omega) (by omega))
    rw [pow13] at hpow
    by_cases hlt : q < s.length
    · have hskip : ¬ (q = 0 ∧ s[q].toNat = 45) := fun h => by omega
      have hmem := body_mem hlt hskip
      obtain ⟨c, hc⟩ : ∃ c, s[q].toNat = c := ⟨_, rfl⟩
      have hc256 : c < 256 := by rw [← hc]; exact UInt8.toNat_lt _
      by_cases hlo : (c : Int) < 48
      · have hnd : isDig s[q] = false := by rw [← Bool.not_eq_true, dig_iff, hc]; omega
        have hbad := parse_dig (s := s) (by rw [List.all_eq_false]; exact ⟨_, hmem, by rw [hnd]; exact Bool.false_ne_true⟩)
        simp [go_sem, h0, h4, h5, h6, hlt, ba_idx, hc, hlo]
        refine PostR.ret ?_
        simp [go_sem, hbad]
      by_cases hhi : (57 : Int) < c
      · have hnd : isDig s[q] = false := by rw [← Bool.not_eq_true, dig_iff, hc]; omega
        have hbad := parse_dig (s := s) (by rw [List.all_eq_false]; exact ⟨_, hmem, by rw [hnd]; exact Bool.false_ne_true⟩)
        simp [go_sem, h0, h4, h5, h6, hlt, ba_idx, hc, hlo, hhi]
        refine PostR.ret ?_
        simp [go_sem, hbad]
      have hlo' : (48 : Int) ≤ c := by omega
      have hhi' : (c : Int) ≤ 57 := by omega
      have hd : isDig s[q] = true := by rw [dig_iff, hc]; omega
      have w1 : IntKind.i64.wrap ((acc : Int) * 10) = (acc : Int) * 10 := wrapOf (by omega) (by omega)
      have w2 : IntKind.u8.wrap ((c : Int) - 48) = (c : Int) - 48 := wrap_u8 (by omega) (by omega)
      have w3 : IntKind.i64.wrap ((c : Int) - 48) = (c : Int) - 48 := wrapOf (by omega) (by omega)
      have w4 : IntKind.i64.wrap ((acc : Int) * 10 + ((c : Int) - 48)) = (acc : Int) * 10 + ((c : Int) - 48) := wrapOf (by omega) (by omega)
      have hstep := body_step hlt hskip
      have hsub : q + 1 - 1 = (q - 1) + 1 := by omega
      simp [go_sem, h0, h4, h5, h6, hlt, ba_idx, hc, hlo, hhi, hlo', hhi', w1, w2, w3, w4, wrap_succ hlt hm]
      refine ⟨s.length - (q + 1), by omega, q + 1, by omega, by omega, by omega, 10 * acc + (c - 48), by omega, by first | rfl | omega, by rw [hstep, foldD_snoc, hc, hacc], fun x hx => ?_, by rw [hsub]; have := Nat.pow_succ 10 (q - 1); omega⟩
      rw [hstep] at hx
      rcases List.mem_append.1 hx with hx | hx
      · exact List.all_eq_true.1 hdig x hx
      · rw [List.mem_singleton] at hx; rw [hx]; exact hd
    · rw [List.take_of_length_le (by omega)] at hacc hdig
      have hpv := parse_val hdig
      obtain ⟨N, hN⟩ : ∃ N, N = numS s := ⟨_, rfl⟩
      rw [← hN] at hpv
      have hNv : -(acc : Int) = N := by rw [hN, hacc]; unfold numS; rw [hng]; rfl
      have w1 : IntKind.i64.wrap (-(acc : Int)) = N := by rw [hNv]; exact wrapOf (by omega) (by omega)
      by_cases hlo : N < -1000000000000
      · have hres : parseOf s = none := by rw [hpv, if_neg (by unfold fitN; rw [decide_eq_false (by omega)]; simp)]
        simp [go_sem, h0, h4, h5, h6, hlt, w1, hlo]
        refine PostR.ret ?_
        simp [go_sem, hres]
      by_cases hhi : 1000000000000 < N
      · have hres : parseOf s = none := by rw [hpv, if_neg (by unfold fitN; rw [decide_eq_false (by omega)]; simp)]
        simp [go_sem, h0, h4, h5, h6, hlt, w1, hlo, hhi]
        refine PostR.ret ?_
        simp [go_sem, hres]
      simp [go_sem, h0, h4, h5, h6, hlt, w1, hlo, hhi]
      refine CallSem.pure (rtext_ac N (by omega) (by omega)) (by simp [go_sem]) ?_
      by_cases ht : textOf N = s
      · have hres : parseOf s = some N := by rw [hpv, if_pos (by unfold fitN; rw [decide_eq_true (by omega), decide_eq_true ht]; rfl)]
        simp [go_sem, h0, h5, ht]
        refine PostR.ret ?_
        simp [go_sem, hres]
      · have hres : parseOf s = none := by rw [hpv, if_neg (by unfold fitN; rw [decide_eq_false ht]; simp)]
        have ht2 : (textOf N == s) = false := by simpa using ht
        simp [go_sem, h0, h5, ht, ht2]
        refine PostR.ret ?_
        simp [go_sem, hres]
  · have hng : negS s = false := by rw [← Bool.not_eq_true, neg_iff hpos]; exact hneg
    have hbl : (bodyS s).length = s.length := by unfold bodyS; rw [hng]; rfl
    have c45 : ¬ ((s[0].toNat : Nat) : Int) = 45 := by omega
    have k1 : ¬ (s.length : Int) = 0 := by omega
    by_cases hl14 : (13 : Int) < s.length
    · have hp := parse_len (s := s) (.inr (.inr (.inl (by omega))))
      simp [go_sem, k3, kp, hpos, ba_idx, c45, hneg, k1, w130, hl14]
      refine PostR.ret ?_
      simp [go_sem, hp]
    have hm : s.length ≤ maxLen := by unfold maxLen; omega
    simp [go_sem, k3, kp, hpos, ba_idx, c45, hneg, k1, w130, hl14]
    refine AWp.loop_vc [] (fun m st => ∃ q acc : Nat, 0 ≤ q ∧ q ≤ s.length ∧ m = s.length - q ∧ st.σ 0 = S s ∧ st.σ 4 = I 0 ∧ st.σ 5 = I acc ∧ st.σ 6 = I q ∧ acc = foldD 0 (bodyS (s.take q)) ∧ (bodyS (s.take q)).all isDig = true ∧ acc < 10 ^ q) s.length ⟨0, 0, by simp [go_sem, bodyS, negS, foldD]⟩ ?_
    rintro m st ⟨q, acc, hat, hq, rfl, h0, h4, h5, h6, hacc, hdig, hlt10⟩
    have hpow : acc < 10 ^ 13 := Nat.lt_of_lt_of_le hlt10 (Nat.pow_le_pow_right (by omega) (by omega))
    rw [pow13] at hpow
    by_cases hlt : q < s.length
    · have hskip : ¬ (q = 0 ∧ s[q].toNat = 45) := fun h => by obtain ⟨h1, h2⟩ := h; subst h1; exact hneg h2
      have hmem := body_mem hlt hskip
      obtain ⟨c, hc⟩ : ∃ c, s[q].toNat = c := ⟨_, rfl⟩
      have hc256 : c < 256 := by rw [← hc]; exact UInt8.toNat_lt _
      by_cases hlo : (c : Int) < 48
      · have hnd : isDig s[q] = false := by rw [← Bool.not_eq_true, dig_iff, hc]; omega
        have hbad := parse_dig (s := s) (by rw [List.all_eq_false]; exact ⟨_, hmem, by rw [hnd]; exact Bool.false_ne_true⟩)
        simp [go_sem, h0, h4, h5, h6, hlt, ba_idx, hc, hlo]
        refine PostR.ret ?_
        simp [go_sem, hbad]
      by_cases hhi : (57 : Int) < c
      · have hnd : isDig s[q] = false := by rw [← Bool.not_eq_true, dig_iff, hc]; omega
        have hbad := parse_dig (s := s) (by rw [List.all_eq_false]; exact ⟨_, hmem, by rw [hnd]; exact Bool.false_ne_true⟩)
        simp [go_sem, h0, h4, h5, h6, hlt, ba_idx, hc, hlo, hhi]
        refine PostR.ret ?_
        simp [go_sem, hbad]
      have hlo' : (48 : Int) ≤ c := by omega
      have hhi' : (c : Int) ≤ 57 := by omega
      have hd : isDig s[q] = true := by rw [dig_iff, hc]; omega
      have w1 : IntKind.i64.wrap ((acc : Int) * 10) = (acc : Int) * 10 := wrapOf (by omega) (by omega)
      have w2 : IntKind.u8.wrap ((c : Int) - 48) = (c : Int) - 48 := wrap_u8 (by omega) (by omega)
      have w3 : IntKind.i64.wrap ((c : Int) - 48) = (c : Int) - 48 := wrapOf (by omega) (by omega)
      have w4 : IntKind.i64.wrap ((acc : Int) * 10 + ((c : Int) - 48)) = (acc : Int) * 10 + ((c : Int) - 48) := wrapOf (by omega) (by omega)
      have hstep := body_step hlt hskip
      have hsub : q + 1 - 0 = q + 1 := by omega
      simp [go_sem, h0, h4, h5, h6, hlt, ba_idx, hc, hlo, hhi, hlo', hhi', w1, w2, w3, w4, wrap_succ hlt hm]
      refine ⟨s.length - (q + 1), by omega, q + 1, by omega, by omega, 10 * acc + (c - 48), by omega, by first | rfl | omega, by rw [hstep, foldD_snoc, hc, hacc], fun x hx => ?_, by have := Nat.pow_succ 10 q; omega⟩
      rw [hstep] at hx
      rcases List.mem_append.1 hx with hx | hx
      · exact List.all_eq_true.1 hdig x hx
      · rw [List.mem_singleton] at hx; rw [hx]; exact hd
    · rw [List.take_of_length_le (by omega)] at hacc hdig
      have hpv := parse_val hdig
      obtain ⟨N, hN⟩ : ∃ N, N = numS s := ⟨_, rfl⟩
      rw [← hN] at hpv
      have hNv : (acc : Int) = N := by rw [hN, hacc]; unfold numS; rw [hng]; rfl
      rw [hNv] at h5
      by_cases hlo : N < -1000000000000
      · have hres : parseOf s = none := by rw [hpv, if_neg (by unfold fitN; rw [decide_eq_false (by omega)]; simp)]
        simp [go_sem, h0, h4, h5, h6, hlt, hlo]
        refine PostR.ret ?_
        simp [go_sem, hres]
      by_cases hhi : 1000000000000 < N
      · have hres : parseOf s = none := by rw [hpv, if_neg (by unfold fitN; rw [decide_eq_false (by omega)]; simp)]
        simp [go_sem, h0, h4, h5, h6, hlt, hlo, hhi]
        refine PostR.ret ?_
        simp [go_sem, hres]
      simp [go_sem, h0, h4, h5, h6, hlt, hlo, hhi]
      refine CallSem.pure (rtext_ac N (by omega) (by omega)) (by simp [go_sem]) ?_
      by_cases ht : textOf N = s
      · have hres : parseOf s = some N := by rw [hpv, if_pos (by unfold fitN; rw [decide_eq_true (by omega), decide_eq_true ht]; rfl)]
        simp [go_sem, h0, h5, ht]
        refine PostR.ret ?_
        simp [go_sem, hres]
      · have hres : parseOf s = none := by rw [hpv, if_neg (by unfold fitN; rw [decide_eq_false ht]; simp)]
        have ht2 : (textOf N == s) = false := by simpa using ht
        simp [go_sem, h0, h5, ht, ht2]
        refine PostR.ret ?_
        simp [go_sem, hres]

end Go.Proofs.Ytahpcfdhlgcinaa
