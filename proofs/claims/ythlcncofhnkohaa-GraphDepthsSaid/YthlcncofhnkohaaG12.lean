/- The law of chapter 09: Depths. No condition. -/
import Derived.Test.YthlcncofhnkohaaG11
namespace Go.Proofs.Ythlcncofhnkohaa
open Go Go.Abs
set_option linter.unusedSimpArgs false
theorem mostOf_spec (l : List Evt) : ∀ (r : List Int) (d : Int), (∀ n ∈ r, depthOf l n ≤ mostOf l d r) ∧ d ≤ mostOf l d r ∧ (mostOf l d r = d ∨ ∃ n ∈ r, mostOf l d r = depthOf l n)
  | [], d => ⟨(fun _ h => (by cases h)), Int.le_refl _, .inl rfl⟩
  | n :: r, d => by
    have ih := mostOf_spec l r (if d < depthOf l n then depthOf l n else d)
    have e : mostOf l d (n :: r) = mostOf l (if d < depthOf l n then depthOf l n else d) r := rfl
    rw [e]
    obtain ⟨h1, h2, h3⟩ := ih
    generalize mostOf l (if d < depthOf l n then depthOf l n else d) r = M at h1 h2 h3
    refine ⟨fun x hx => ?_, ?_, ?_⟩
    · rcases List.mem_cons.1 hx with rfl | hx
      · split at h2 <;> omega
      · exact h1 x hx
    · split at h2 <;> omega
    · rcases h3 with h3 | ⟨x, hx, h3⟩
      · split at h3
        · exact .inr ⟨n, List.mem_cons_self .., h3⟩
        · exact .inl h3
      · exact .inr ⟨x, List.mem_cons_of_mem _ hx, h3⟩
def InR (l : List Evt) : Prop := ∀ e ∈ l, -9223372036854775808 ≤ e.depth ∧ e.depth ≤ 9223372036854775807
theorem depth_rng {l : List Evt} (hr : InR l) (n : Int) : -9223372036854775808 ≤ depthOf l n ∧ depthOf l n ≤ 9223372036854775807 := by
  unfold depthOf
  cases hg : getE l n with
  | none => exact ⟨by decide, by decide⟩
  | some e => exact hr e (List.mem_of_find?_eq_some hg)
theorem wrap_one {x : Int} (h1 : 1 ≤ x) (h2 : x ≤ 18446744073709551615) : IntKind.i64.wrap x = 1 ↔ x = 1 := by
  rw [IntKind.wrap_i64]; omega
theorem deep_same {l : List Evt} (hr : InR l) {e : Evt} (he : e ∈ l) : deepP l e = deepR l e := by
  have hd := hr e he
  unfold deepP deepR nearOf rootBad prevBad
  cases hP : e.prev with
  | nil => cases authBad l e <;> cases (e.depth == 1) <;> rfl
  | cons n0 r =>
    simp only [List.isEmpty_cons, Bool.false_and, Bool.not_false, Bool.true_and, Bool.false_or]
    congr 1
    obtain ⟨h1, h2, h3⟩ := mostOf_spec l (n0 :: r) (depthOf l n0)
    have hMr : -9223372036854775808 ≤ mostOf l (depthOf l n0) (n0 :: r) ∧ ∃ n ∈ n0 :: r, mostOf l (depthOf l n0) (n0 :: r) = depthOf l n := by
      rcases h3 with h3 | ⟨n, hn, h3⟩
      · exact ⟨by rw [h3]; exact (depth_rng hr n0).1, n0, List.mem_cons_self .., h3⟩
      · exact ⟨by rw [h3]; exact (depth_rng hr n).1, n, hn, h3⟩
    obtain ⟨hlo, nm, hnm, hM⟩ := hMr
    generalize mostOf l (depthOf l n0) (n0 :: r) = M at h1 h2 h3 hlo hM
    generalize n0 :: r = P at h1 hnm
    rw [Bool.eq_iff_iff]
    simp only [Bool.and_eq_true, decide_eq_true_eq, beq_iff_eq, Bool.not_eq_true', List.any_eq_false, List.any_eq_true]
    constructor
    · rintro ⟨hlt, hw⟩
      have hx := (wrap_one (x := e.depth - M) (by omega) (by omega)).1 hw
      refine ⟨fun n hn => by have := h1 n hn; omega, nm, hnm, ?_⟩
      unfold hitOf
      rw [beq_iff_eq, wrap_i64 (by omega) (by omega)]
      omega
    · rintro ⟨hall, n, hn, hh⟩
      have hlt : M < e.depth := by
        have := hall nm hnm
        omega
      refine ⟨hlt, (wrap_one (by omega) (by omega)).2 ?_⟩
      unfold hitOf at hh
      rw [beq_iff_eq, wrap_i64 (by omega) (by omega)] at hh
      have := h1 n hn
      omega
theorem depths_same {l : List Evt} (hr : InR l) : depthsR l = depthsP l := by
  unfold depthsR depthsP
  have : l.all (deepR l) = l.all (deepP l) := by
    rw [Bool.eq_iff_iff, List.all_eq_true, List.all_eq_true]
    exact ⟨fun h e he => by rw [deep_same hr he]; exact h e he, fun h e he => by rw [← deep_same hr he]; exact h e he⟩
  rw [this]
set_option maxRecDepth 8000 in
set_option maxHeartbeats 4000000 in
theorem depths9_law (l : List Evt) (a b : Int) (hr : InR l) : AC Try.prog 6 [evs l, I a, I b] (B true) := by
  refine AC.of_body Try.func6 rfl rfl Try.ntmps6 (congrArg Array.toList Try.results6) (by simp) (pures3 (pure_evs _) (pure_I _) (pure_I _)) (pure_B _) fun w S' => AWp.of_vc [] ?_
  simp [go_sem]
  refine CallSem.pure (great_ac l) (by simp [go_sem]) ?_
  cases hG : greatOf l 14 with
  | true =>
    simp [go_sem]
    refine PostR.ret ?_
    simp [go_sem]
  | false =>
    have hl := great_fit hG
    simp [go_sem]
    refine CallSem.pure (depths_ac l hl) (by simp [go_sem]) ?_
    simp [go_sem]
    refine CallSem.pure (rdepths_ac l hl) (by simp [go_sem]) ?_
    rw [depths_same hr]
    generalize depthsP l = D
    simp [go_sem]
    refine CallSem.pure (before_ac l a b hl) (by simp [go_sem]) ?_
    simp [go_sem]
    refine CallSem.pure (rbefore_ac l a b hl) (by simp [go_sem]) ?_
    generalize beforeOf l a b = bb
    simp [go_sem]
    refine CallSem.pure live9_ac (by simp [go_sem]) ?_
    simp [go_sem]
    refine PostR.ret ?_
    simp [go_sem]

end Go.Proofs.Ythlcncofhnkohaa
