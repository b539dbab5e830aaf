/- Comparisons of an event with itself. No condition. -/
import Derived.Test.YtebggldlhohkpaaE1
import Derived.Test.YtebggldlhohkpaaU2
namespace Go.Proofs.Ytebggldlhohkpaa
open Go Go.Abs
set_option linter.unusedSimpArgs false
def lvs (x : Levels) : AV := .agg (lvsc x)
def ct (x : Content) : AV := .agg (ctc x)
theorem pure_lvsc (x : Levels) : ∀ c ∈ lvsc x, Pure c := by
  intro c hc
  simp only [lvsc, List.mem_cons, List.not_mem_nil, or_false] at hc
  rcases hc with rfl | rfl | rfl | rfl | rfl | rfl | rfl | rfl | rfl <;> first | exact pure_v _ | exact pure_lst_agg pure_lvc | exact pure_lst_agg pure_klc
theorem pure_lvs (x : Levels) : Pure (lvs x) := pure_agg (pure_lvsc x)
theorem pure_ctc (x : Content) : ∀ c ∈ ctc x, Pure c := by
  intro c hc
  simp only [ctc, List.mem_cons, List.not_mem_nil, or_false] at hc
  rcases hc with rfl | rfl | rfl | rfl | rfl | rfl | rfl | rfl | rfl | rfl | rfl | rfl | rfl | rfl | rfl | rfl <;> first | exact pure_v _ | exact pure_strs _ | exact pure_lst_agg pure_lvc | exact pure_lst_agg pure_klc
theorem pure_ct (x : Content) : Pure (ct x) := pure_agg (pure_ctc x)
theorem evc_ct (x : Evt) : ((evc x).drop 10).take 16 = ctc x.content := rfl
attribute [go_sem] evc_ct lvs ct lvsc ctc lvc klc
theorem strs_len' (l : List Bytes) : (l.map S).length = l.length := by simp
theorem AWp.boundCell {G : Ctx} {st : St} {c : Code} {Q : Exit → St → Prop} (d i : Nat) {cs : List AV} {j sz : Nat} {xs : List AV} (hd : st.σ d = .eptr cs j) (hc : cs[i]? = some (.lst sz xs)) (h : xs.length ≤ maxLen → AWp G c Q st) : AWp G c Q st := fun E a hr => by
  have := hr.slots d
  rw [hd] at this
  generalize a.tmps.getD d undef = x at this
  cases this with
  | eptr _ _ b off u hS h1 h2 => exact h (h2 i _ hc).lst_len E a hr
theorem AWp.boundAgg {G : Ctx} {st : St} {c : Code} {Q : Exit → St → Prop} (d i : Nat) {cs : List AV} {sz : Nat} {xs : List AV} (hd : st.σ d = .agg cs) (hc : cs[i]? = some (.lst sz xs)) (h : xs.length ≤ maxLen → AWp G c Q st) : AWp G c Q st := fun E a hr => by
  have := hr.slots d
  rw [hd] at this
  generalize a.tmps.getD d undef = x at this
  cases this with
  | agg _ us hl h1 => exact h (h1 i _ hc).lst_len E a hr
set_option maxRecDepth 8000 in
set_option maxHeartbeats 4000000 in
theorem sameTexts_refl (l : List Bytes) : AC Try.prog 57 [strs l, strs l] (B true) := by
  refine AC.of_body Try.func57 rfl rfl Try.ntmps57 (congrArg Array.toList Try.results57) (by simp) (pures2 (pure_strs _) (pure_strs _)) (pure_B _) fun w S' => AWp.bound 0 rfl fun hlen => AWp.of_vc [] ?_
  rw [strs_len'] at hlen
  simp [go_sem]
  refine AWp.loop_vc [] (fun m s => ∃ k : Nat, k ≤ l.length ∧ m = l.length - k ∧ s.σ 0 = strs l ∧ s.σ 1 = strs l ∧ s.σ 5 = I k) l.length ⟨0, by simp [go_sem]⟩ ?_
  rintro m s ⟨k, hk, rfl, h0, h1, h5⟩
  by_cases hlt : k < l.length
  · simp [go_sem, h0, h1, h5, hlt]
    refine AWp.drawAll rfl (by kernel_rfl) ?_
    simp [go_sem, h0, h1, h5, hlt, wrap_succ hlt hlen]
    exact ⟨l.length - (k + 1), by omega, k + 1, by omega, rfl, rfl⟩
  · simp [go_sem, h0, h1, h5, hlt]
    refine PostR.ret ?_
    simp [go_sem]
set_option maxRecDepth 8000 in
set_option maxHeartbeats 4000000 in
theorem sameLevels_refl (v : Levels) : AC Try.prog 58 [lvs v, lvs v] (B true) := by
  refine AC.of_body Try.func58 rfl rfl Try.ntmps58 (congrArg Array.toList Try.results58) (by simp) (pures2 (pure_lvs _) (pure_lvs _)) (pure_B _) fun w S' => AWp.of_vc [] ?_
  simp [go_sem]
  refine AWp.boundCell 2 0 (cs := lvsc v) (j := 0) (sz := 2) (xs := v.users.map fun u => .agg (lvc u)) (by simp [go_sem]) rfl fun hb1 => ?_
  refine AWp.boundCell 2 1 (cs := lvsc v) (j := 0) (sz := 2) (xs := v.kinds.map fun u => .agg (klc u)) (by simp [go_sem]) rfl fun hb2 => ?_
  simp only [List.length_map] at hb1 hb2
  refine AWp.loop_vc [] (fun m s => ∃ k : Nat, k ≤ v.users.length ∧ m = v.users.length - k ∧ s.σ 2 = .eptr (lvsc v) 0 ∧ s.σ 3 = .eptr (lvsc v) 0 ∧ s.σ 5 = I k) v.users.length ⟨0, by simp [go_sem]⟩ ?_
  rintro m s ⟨k, hk, rfl, h2, h3, h5⟩
  by_cases hlt : k < v.users.length
  · simp [go_sem, h2, h3, h5, hlt]
    refine AWp.drawAll rfl (by kernel_rfl) ?_
    simp [go_sem, h2, h3, h5, hlt, wrap_succ hlt hb1]
    exact ⟨v.users.length - (k + 1), by omega, k + 1, by omega, rfl, rfl⟩
  · simp [go_sem, h2, h3, h5, hlt]
    refine AWp.loop_vc [] (fun m s => ∃ k : Nat, k ≤ v.kinds.length ∧ m = v.kinds.length - k ∧ s.σ 2 = .eptr (lvsc v) 0 ∧ s.σ 3 = .eptr (lvsc v) 0 ∧ s.σ 6 = I k) v.kinds.length ⟨0, by simp [go_sem, h2, h3]⟩ ?_
    rintro m s ⟨q, hq, rfl, g2, g3, g6⟩
    by_cases hql : q < v.kinds.length
    · simp [go_sem, g2, g3, g6, hql]
      refine AWp.drawAll rfl (by kernel_rfl) ?_
      simp [go_sem, g2, g3, g6, hql, wrap_succ hql hb2]
      exact ⟨v.kinds.length - (q + 1), by omega, q + 1, by omega, rfl, rfl⟩
    · simp [go_sem, g2, g3, g6, hql]
      refine PostR.ret ?_
      simp [go_sem]

set_option maxRecDepth 8000 in
set_option maxHeartbeats 4000000 in
theorem r6same_refl (x : Content) : AC Try.prog 48 [ct x, ct x] (B true) := by
  refine AC.of_body Try.func48 rfl rfl Try.ntmps48 (congrArg Array.toList Try.results48) (by simp) (pures2 (pure_ct _) (pure_ct _)) (pure_B _) fun w S' => AWp.of_vc [] ?_
  simp [go_sem]
  refine CallSem.pure (sameTexts_refl x.allow) (by simp [go_sem]) ?_
  simp [go_sem]
  refine CallSem.pure (sameTexts_refl x.deny) (by simp [go_sem]) ?_
  simp [go_sem]
  refine CallSem.pure (sameLevels_refl x.levels) (by simp [go_sem]) ?_
  simp [go_sem]
  refine PostR.ret ?_
  simp [go_sem]

set_option maxRecDepth 8000 in
set_option maxHeartbeats 4000000 in
theorem r7same_refl (x : Evt) : AC Try.prog 39 [ev x, ev x] (B true) := by
  refine AC.of_body Try.func39 rfl rfl Try.ntmps39 (congrArg Array.toList Try.results39) (by simp) (pures2 (pure_ev _) (pure_ev _)) (pure_B _) fun w S' => AWp.of_vc [] ?_
  simp [go_sem]
  refine CallSem.pure (same_ac x.prev x.prev) (by simp [go_sem]) ?_
  simp [go_sem]
  refine CallSem.pure (same_ac x.auth x.auth) (by simp [go_sem]) ?_
  simp [go_sem]
  refine CallSem.pure (r6same_refl x.content) (by simp [go_sem]) ?_
  simp [go_sem]
  refine PostR.ret ?_
  simp [go_sem]

set_option maxRecDepth 8000 in
set_option maxHeartbeats 4000000 in
theorem sameAll_refl (l : List Evt) : AC Try.prog 21 [evs l, evs l] (B true) := by
  refine AC.of_body Try.func21 rfl rfl Try.ntmps21 (congrArg Array.toList Try.results21) (by simp) (pures2 (pure_evs _) (pure_evs _)) (pure_B _) fun w S' => AWp.bound 0 rfl fun hlen => AWp.of_vc [] ?_
  rw [evs_len] at hlen
  simp [go_sem]
  refine AWp.loop_vc [] (fun m s => ∃ k : Nat, k ≤ l.length ∧ m = l.length - k ∧ s.σ 0 = evs l ∧ s.σ 1 = evs l ∧ s.σ 5 = I k) l.length ⟨0, by simp [go_sem]⟩ ?_
  rintro m s ⟨k, hk, rfl, h0, h1, h5⟩
  by_cases hlt : k < l.length
  · simp [go_sem, h0, h1, h5, hlt]
    refine AWp.drawAll rfl (by kernel_rfl) ?_
    simp [go_sem, h0, h1, h5, hlt]
    refine CalmThen.pure (r7same_refl l[k]) rfl ?_
    simp [go_sem, h0, h1, h5, hlt, wrap_succ hlt hlen]
    exact ⟨l.length - (k + 1), by omega, k + 1, by omega, rfl, rfl⟩
  · simp [go_sem, h0, h1, h5, hlt]
    refine PostR.ret ?_
    simp [go_sem]

end Go.Proofs.Ytebggldlhohkpaa
