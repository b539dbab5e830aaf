/- The laws of chapter 10, as contracts: Diffs, Events. No condition. -/
import Derived.Test.YtlhaopapeggefaaS10
import Derived.Test.YtlhaopapeggefaaE2
namespace Go.Proofs.Ytlhaopapeggefaa
open Go Go.Abs
set_option linter.unusedSimpArgs false
def setAll (t : List EntD) (d : List EntD) : List EntD := d.foldl (fun t e => setOf t e.kind e.key e.id) t
theorem setAll_len (d : List EntD) : ∀ t : List EntD, (setAll t d).length ≤ t.length + d.length := by
  induction d with
  | nil => intro t; simp [setAll]
  | cons x d ih =>
    intro t
    have h1 := ih (setOf t x.kind x.key x.id)
    have h2 := setOf_len t x.kind x.key x.id
    simp only [setAll, List.foldl_cons, List.length_cons] at h1 ⊢
    omega
theorem setAll_succ {t d : List EntD} {k : Nat} (h : k < d.length) : setAll t (d.take (k + 1)) = setOf (setAll t (d.take k)) d[k].kind d[k].key d[k].id := by
  unfold setAll
  rw [List.take_succ_eq_append_getElem h, List.foldl_append]; rfl
theorem diff_len (a b : List EntD) : (diffOf a b).length ≤ b.length := List.length_filter_le _ _
theorem diff_after {a b : List EntD} (ha : adj a = true) (hb : adj b = true) : diffOf (setAll a (diffOf a b)) b = [] := by
  rw [diff_nil]
  refine set_all hb (diffOf a b) a ha (fun e he => (List.mem_filter.1 he).1) fun e he => ?_
  by_cases hg : getOf a e.kind e.key = some e.id
  · exact .inr hg
  · exact .inl (List.mem_filter.2 ⟨he, by simpa using hg⟩)
theorem diff_self {a : List EntD} (ha : adj a = true) : diffOf a a = [] := diff_nil.2 fun e he => get_self ha he
set_option maxRecDepth 8000 in
set_option maxHeartbeats 4000000 in
theorem diffs_law (a b : List EntD) : AC Try.prog 8 [ents a, ents b] (B true) := by
  refine AC.of_body Try.func8 rfl rfl Try.ntmps8 (congrArg Array.toList Try.results8) (by simp) (pures2 (pure_ents _) (pure_ents _)) (pure_B _) fun w S' => AWp.of_vc [] ?_
  simp [go_sem]
  refine CallSem.pure (short_ac a) (by simp [go_sem]) ?_
  cases hsa : shortOf a with
  | false =>
    simp [go_sem]
    refine CallSem.pure lives_ac (by simp [go_sem]) ?_
    simp [go_sem]
    refine PostR.ret ?_
    simp [go_sem]
  | true =>
    simp [go_sem]
    refine CallSem.pure (short_ac b) (by simp [go_sem]) ?_
    cases hsb : shortOf b with
    | false =>
      simp [go_sem]
      refine CallSem.pure lives_ac (by simp [go_sem]) ?_
      simp [go_sem]
      refine PostR.ret ?_
      simp [go_sem]
    | true =>
      obtain ⟨a1, a2, _, _⟩ := short_spec hsa
      obtain ⟨b1, b2, _, _⟩ := short_spec hsb
      have hdl := diff_len a b
      simp [go_sem]
      refine CallSem.pure (diff_ac a b (by omega)) (by simp [go_sem]) ?_
      simp [go_sem]
      refine CallSem.pure (rdiff_ac a b (by omega)) (by simp [go_sem]) ?_
      rw [← diffOf_eq a2]
      simp [go_sem]
      refine CallSem.pure (rsame_ac (diffOf a b) (diffOf a b)) (by simp [go_sem]) ?_
      simp [go_sem]
      refine CallSem.pure (ssame_ac a b) (by simp [go_sem]) ?_
      simp [go_sem]
      refine CallSem.pure (rsame_ac a b) (by simp [go_sem]) ?_
      simp [go_sem]
      refine CallSem.pure (copiedS_ac a (by omega)) (by simp [go_sem]) ?_
      simp [go_sem]
      refine AWp.loop_vc [] (fun m s => ∃ k : Nat, k ≤ (diffOf a b).length ∧ m = (diffOf a b).length - k ∧ s.σ 0 = ents a ∧ s.σ 1 = ents b ∧ s.σ 5 = ents (diffOf a b) ∧ s.σ 6 = ents (setAll a ((diffOf a b).take k)) ∧ s.σ 7 = I k) (diffOf a b).length ⟨0, by simp [go_sem, setAll]⟩ ?_
      rintro m s ⟨k, hk, rfl, h0, h1, h5, h6, h7⟩
      by_cases hlt : k < (diffOf a b).length
      · have hl := setAll_len ((diffOf a b).take k) a
        simp only [List.length_take] at hl
        simp [go_sem, h0, h1, h5, h6, h7, hlt]
        refine AWp.drawAll rfl (by kernel_rfl) ?_
        simp [go_sem, h0, h1, h5, h6, h7, hlt]
        refine CalmThen.pure (set_ac (setAll a ((diffOf a b).take k)) (diffOf a b)[k].kind (diffOf a b)[k].key (diffOf a b)[k].id (by omega)) rfl ?_
        simp [go_sem, h0, h1, h5, h6, h7, hlt, wrap_succ hlt (show (diffOf a b).length ≤ maxLen by unfold maxLen; omega)]
        exact ⟨(diffOf a b).length - (k + 1), by omega, k + 1, by omega, rfl, by rw [setAll_succ hlt], rfl⟩
      · have hk' : k = (diffOf a b).length := by omega
        subst hk'
        rw [List.take_length] at h6
        simp [go_sem, h0, h1, h5, h6, h7]
        refine CallSem.pure (diff_ac (setAll a (diffOf a b)) b (by omega)) (by simp [go_sem]) ?_
        rw [diff_after a2 b2]
        simp [go_sem, h0, h1]
        refine CallSem.pure (diff_ac a a (by omega)) (by simp [go_sem]) ?_
        rw [diff_self a2]
        simp [go_sem]
        refine CallSem.pure lives_ac (by simp [go_sem]) ?_
        simp [go_sem]
        refine PostR.ret ?_
        simp [go_sem]

end Go.Proofs.Ytlhaopapeggefaa
