/- Contracts of chapter 36: Valid. No condition. -/
import Derived.Test.YtckoolpjphhfdaaR7
namespace Go.Proofs.Ytckoolpjphhfdaa
open Go Go.Abs Go.Proofs
set_option linter.unusedSimpArgs false
set_option linter.unusedVariables false
set_option maxRecDepth 8000 in
set_option maxHeartbeats 4000000 in
theorem containsFunc_gen (f : FuncId) (cap : List AV) (p : Evt → Bool) (hp : ∀ e, AC Try.prog f (ev e :: cap) (B (p e))) (hcap : ∀ c ∈ cap, Pure c) (hcc : ∀ c ∈ cap, ∀ d ∈ c.cells, Pure d) (l : List Evt) : AC Try.prog 39 [evs l, .fn (.func f) [] cap] (B (l.find? p).isSome) := by
  refine AC.of_body Try.func39 rfl rfl Try.ntmps39 (congrArg Array.toList Try.results39) (by simp) (pures2 (pure_evs _) (pure_clo hcap)) (pure_B _) fun w S' => AWp.of_vc [] ?_
  simp [go_sem]
  refine CallSem.pure (indexFunc_gen f cap p hp hcap l) (by simp [go_sem]) ?_
  rcases idxI_find p l with ⟨hf, hi⟩ | ⟨k, hk, hf, hi⟩
  · simp [go_sem, hi, hf]
    refine PostR.ret ?_
    simp [go_sem]
  · have h0 : (0 : Int) ≤ (k : Int) := by omega
    simp [go_sem, hi, hf, h0]
    refine PostR.ret ?_
    simp [go_sem]

theorem pure_eptr2 (a b : Int) : Pure (.eptr [I a, I b] 0) := pure_eptr fun c h => by
  simp only [List.mem_cons, List.not_mem_nil, or_false] at h
  rcases h with rfl | rfl <;> exact pure_I _
def sameB (e o : Evt) : Bool := decide (¬ o.id = e.id ∧ ((relE o).1 = (relE e).1 ∧ (relE o).2 = (relE e).2) ∧ o.sender = e.sender ∧ o.content.text = e.content.text)
set_option maxRecDepth 8000 in
set_option maxHeartbeats 4000000 in
theorem validC_ac (e o : Evt) : AC Try.prog 38 [ev o, .eptr (evc e) 0, .eptr [I (relE e).1, I (relE e).2] 0] (B (sameB e o)) := by
  refine AC.of_body Try.func38 rfl rfl Try.ntmps38 (congrArg Array.toList Try.results38) (by simp) (pures3 (pure_ev _) (pure_eptr (pure_evc _)) (pure_eptr2 _ _)) (pure_B _) fun w S' => AWp.of_vc [] ?_
  unfold sameB
  simp [go_sem]
  refine AWp.drawAll rfl (by kernel_rfl) ?_
  by_cases h1 : o.id = e.id
  · simp [go_sem, h1]
    refine PostR.ret ?_
    simp [go_sem]
  simp [go_sem, h1]
  refine CalmThen.pure (rel_ac o) rfl ?_
  by_cases h2 : (relE o).1 = (relE e).1 ∧ (relE o).2 = (relE e).2
  · by_cases h3 : o.sender = e.sender
    · simp [go_sem, h1, h2, h3]
      refine PostR.ret ?_
      simp [go_sem]
      rw [Bool.eq_iff_iff]; simp
    · simp [go_sem, h1, h2, h3]
      refine PostR.ret ?_
      simp [go_sem]
  · simp [go_sem, h1, h2]
    refine PostR.ret ?_
    simp [go_sem]
    exact fun a b => absurd ⟨a, b⟩ h2

def hasSame (K : List Evt) (e : Evt) : Bool := (K.find? (sameB e)).isSome
def validOf (l : List Evt) (e : Evt) : Int :=
  if (relE e).1 = 0 then 0 else match getE (onceL l) (relE e).2 with
  | none => 5
  | some t => if ¬ t.kind = 11 ∨ ((relE e).1 = 2 ∧ (relE t).1 = 2) then 1 else if (relE e).1 = 3 ∧ ¬ t.sender = e.sender then 18 else if (relE e).1 = 4 ∧ hasSame (onceL l) e = true then 4 else 0
set_option maxRecDepth 8000 in
set_option maxHeartbeats 4000000 in
theorem valid_ac (l : List Evt) (e : Evt) (hsz : l.length ≤ 100000) : AC Try.prog 22 [evs l, ev e] (I (validOf l e)) := by
  refine AC.of_body Try.func22 rfl rfl Try.ntmps22 (congrArg Array.toList Try.results22) (by simp) (pures2 (pure_evs _) (pure_ev _)) (pure_I _) fun w S' => AWp.of_vc [] ?_
  unfold validOf
  simp [go_sem]
  refine CallSem.pure (rel_ac e) (by simp [go_sem]) ?_
  by_cases h0 : (relE e).1 = 0
  · simp [go_sem, h0]
    refine PostR.ret ?_
    simp [go_sem]
  simp [go_sem, h0]
  refine CallSem.pure (known_ac l hsz) (by simp [go_sem]) ?_
  generalize onceL l = K
  simp [go_sem]
  refine CallSem.pure (find_ac K (relE e).2) (by simp [go_sem]) ?_
  cases hg : getE K (relE e).2 with
  | none =>
    simp [go_sem]
    refine PostR.ret ?_
    simp [go_sem]
  | some t =>
    by_cases h1 : t.kind = 11
    · by_cases h2 : (relE e).1 = 2
      · simp [go_sem, h1, h2]
        refine CallSem.pure (rel_ac t) (by simp [go_sem]) ?_
        by_cases h3 : (relE t).1 = 2
        · simp [go_sem, h1, h2, h3]
          refine PostR.ret ?_
          simp [go_sem]
        · simp [go_sem, h1, h2, h3]
          refine PostR.ret ?_
          simp [go_sem]
      · by_cases h4 : (relE e).1 = 3
        · by_cases h5 : t.sender = e.sender
          · simp [go_sem, h1, h2, h4, h5]
            refine PostR.ret ?_
            simp [go_sem]
          · have h5' : (t.sender == e.sender) = false := by simpa using h5
            simp [go_sem, h1, h2, h4, h5, h5']
            refine PostR.ret ?_
            simp [go_sem]
        · by_cases h6 : (relE e).1 = 4
          · simp [go_sem, h1, h2, h4, h6]
            have hcl : ∀ o, AC Try.prog 38 (ev o :: [.eptr (evc e) 0, .eptr [I 4, I (relE e).2] 0]) (B (sameB e o)) := fun o => by
              have := validC_ac e o
              rw [h6] at this; exact this
            have hcap : ∀ c ∈ [AV.eptr (evc e) 0, .eptr [I 4, I (relE e).2] 0], Pure c := fun c hc => by
              simp only [List.mem_cons, List.not_mem_nil, or_false] at hc
              rcases hc with rfl | rfl
              · exact pure_eptr (pure_evc _)
              · exact pure_eptr2 _ _
            refine CallSem.freeze 5 ?_
            simp [go_sem]
            refine CallSem.pure (r := B (hasSame K e)) (containsFunc_gen 38 [.eptr (evc e) 0, .eptr [I 4, I (relE e).2] 0] (sameB e) hcl hcap (fun c hc d hd => by
              simp only [List.mem_cons, List.not_mem_nil, or_false] at hc
              rcases hc with rfl | rfl
              · rw [show (AV.eptr (evc e) 0).cells = [.eptr (evc e) 0] from rfl, List.mem_singleton] at hd; subst hd; exact pure_eptr (pure_evc _)
              · rw [show (AV.eptr [I 4, I (relE e).2] 0).cells = [.eptr [I 4, I (relE e).2] 0] from rfl, List.mem_singleton] at hd; subst hd; exact pure_eptr2 _ _) K) (by simp [go_sem]) ?_
            cases hx : hasSame K e with
            | true =>
              simp [go_sem]
              refine PostR.ret ?_
              simp [go_sem]
            | false =>
              simp [go_sem]
              refine PostR.ret ?_
              simp [go_sem]
          · simp [go_sem, h1, h2, h4, h6]
            refine PostR.ret ?_
            simp [go_sem]
    · simp [go_sem, h1]
      refine PostR.ret ?_
      simp [go_sem]

end Go.Proofs.Ytckoolpjphhfdaa
