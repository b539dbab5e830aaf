/- Contracts of chapter 10: Diff. No condition. -/
import Derived.Test.YtlhaopapeggefaaS2
namespace Go.Proofs.Ytlhaopapeggefaa
open Go Go.Abs
set_option linter.unusedSimpArgs false
theorem pure_eachFn (s : List EntD) : Pure (.fn (.func 46) [] [.eptr [ents s] 0]) := pure_fn (fun c h => by cases h) fun c h => by
  simp only [List.mem_singleton] at h; subst h
  exact pure_eptr fun c h => by simp only [List.mem_singleton] at h; subst h; exact pure_ents s
set_option maxRecDepth 8000 in
set_option maxHeartbeats 4000000 in
theorem each_ac (s : List EntD) : AC Try.prog 35 [ents s] (.fn (.func 46) [] [.eptr [ents s] 0]) := by
  refine AC.of_body Try.func35 rfl rfl Try.ntmps35 (congrArg Array.toList Try.results35) (by simp) (pures1 (pure_ents _)) (pure_eachFn s) fun w S' => AWp.of_vc [] ?_
  simp [go_sem]
  refine PostR.ret ?_
  simp [go_sem]
def diffOf (a b : List EntD) : List EntD := b.filter fun e => getOf a e.kind e.key != some e.id
theorem filter_take {α : Type} (p : α → Bool) (l : List α) (k : Nat) (h : k < l.length) : (l.take (k + 1)).filter p = if p l[k] = true then (l.take k).filter p ++ [l[k]] else (l.take k).filter p := by
  rw [List.take_succ_eq_append_getElem h, List.filter_append]
  split
  · rename_i hp; simp [hp]
  · rename_i hp; simp [hp]
set_option maxRecDepth 8000 in
set_option maxHeartbeats 4000000 in
theorem diff_ac (a b : List EntD) (hb : b.length ≤ 100000) : AC Try.prog 25 [ents a, ents b] (ents (diffOf a b)) := by
  refine AC.of_body Try.func25 rfl rfl Try.ntmps25 (congrArg Array.toList Try.results25) (by simp) (pures2 (pure_ents _) (pure_ents _)) (pureR_ents _) fun w S' => AWp.of_vc [] ?_
  simp [go_sem]
  refine CallSem.pure (each_ac b) (by simp [go_sem]) ?_
  simp [go_sem]
  refine AWp.ownNilBox 5 32 30 3 (by simp [go_sem]) (by decide) ?_
  refine range_each (s := b) 19999 (by decide) (by simp [go_sem]) rfl (by simp) (by unfold maxLen; omega) (fun k s1 => ∃ v : Nat, s1.ver 5 = 1 ∧ s1.h 5 = .box [.ref 32 v] ∧ s1.ver 32 = v ∧ s1.h 32 = .arr 30 3 ((diffOf a (b.take k)).map ent)) ?_ ⟨1, by simp [go_sem, diffOf]⟩ ?_ ?_
  · rintro k s1 s2 ⟨v, h1, h2, h3, h4⟩ hσ hag
    have a5 := hag 5 (by decide) (by decide)
    have a32 := hag 32 (by decide) (by decide)
    exact ⟨v, a5.1.trans h1, a5.2.trans h2, a32.1.trans h3, a32.2.trans h4⟩
  · rintro k hk s1 l r V e0 ⟨v, h1, h2, h3, h4⟩ hσ hV hR
    have hl : (diffOf a (b.take k)).length ≤ k := by
      have := List.length_filter_le (fun e : EntD => getOf a e.kind e.key != some e.id) (b.take k)
      simp only [diffOf, List.length_take] at *; omega
    refine AWp.of_vc [6, 32] ?_
    simp [go_sem, hV, hR]
    intro e1
    refine AWp.of_vc [6, 32] ?_
    simp [go_sem, hV, hR]
    refine CallSem.pure (get_ac a b[k].kind b[k].key) (by simp [go_sem]) ?_
    have hstep : diffOf a (b.take (k + 1)) = if getOf a b[k].kind b[k].key = some b[k].id then diffOf a (b.take k) else diffOf a (b.take k) ++ [b[k]] := by
      unfold diffOf
      rw [filter_take _ _ _ hk]
      by_cases hg : getOf a b[k].kind b[k].key = some b[k].id
      · simp [hg]
      · simp [hg]
    cases hg : getOf a b[k].kind b[k].key with
    | none =>
      rw [hg] at hstep
      simp at hstep
      simp [go_sem, hV, hR, h1, h2, h3, h4, hstep]
      exact ⟨by omega, by omega⟩
    | some id =>
      rw [hg] at hstep
      by_cases hid : id = b[k].id
      · simp [hid] at hstep
        simp [go_sem, hV, hR, h1, h2, h3, h4, hid, hstep]
      · simp [hid] at hstep
        simp [go_sem, hV, hR, h1, h2, h3, h4, hid, hstep]
        exact ⟨by omega, by omega⟩
  · rintro s1 ⟨v, h1, h2, h3, h4⟩ hσ
    rw [List.take_length] at h4
    simp [go_sem, hσ, h1, h2, h3, h4]
    refine PostR.retW [32] ?_ (.refl _)
    simp [go_sem, hσ, h1, h2, h3, h4]
end Go.Proofs.Ytlhaopapeggefaa
