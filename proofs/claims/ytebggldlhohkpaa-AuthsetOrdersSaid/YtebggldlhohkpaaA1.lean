/- Contracts of chapter 15: the keys of an event. No condition. -/
import Derived.Test.YtebggldlhohkpaaS5
import Derived.Test.YtebggldlhohkpaaA0
import Derived.Test.YtebggldlhohkpaaP1
namespace Go.Proofs.Ytebggldlhohkpaa
open Go Go.Abs
set_option linter.unusedSimpArgs false
def memOf (n : Int) : Bool := n == 3 || n == 1 || n == 2
def keysOf (e : Evt) : List EntD :=
  if e.kind = 1 then [] else
  if e.kind = 2 then
    (if memOf e.content.n = true then setOf (setOf (setOf (setOf (setOf [] 1 [] 0) 3 [] 0) 2 e.sender 0) 2 e.key 0) 4 [] 0 else setOf (setOf (setOf (setOf [] 1 [] 0) 3 [] 0) 2 e.sender 0) 2 e.key 0)
  else setOf (setOf (setOf [] 1 [] 0) 3 [] 0) 2 e.sender 0
theorem setOf_lenA (s : List EntD) (k : Int) (key : Bytes) (id : Int) : (setOf s k key id).length ≤ s.length + 1 := by
  unfold setOf
  have := fidx_le s ⟨k, key, 0⟩
  rw [List.length_append, List.length_cons, List.length_drop, List.length_take]
  split <;> omega
theorem keysOf_len (e : Evt) : (keysOf e).length ≤ 5 := by
  have h1 := setOf_lenA [] 1 [] 0
  have h2 := setOf_lenA (setOf [] 1 [] 0) 3 [] 0
  have h3 := setOf_lenA (setOf (setOf [] 1 [] 0) 3 [] 0) 2 e.sender 0
  have h4 := setOf_lenA (setOf (setOf (setOf [] 1 [] 0) 3 [] 0) 2 e.sender 0) 2 e.key 0
  have h5 := setOf_lenA (setOf (setOf (setOf (setOf [] 1 [] 0) 3 [] 0) 2 e.sender 0) 2 e.key 0) 4 [] 0
  simp only [List.length_nil] at h1
  unfold keysOf
  split
  · simp
  · split
    · split <;> omega
    · omega
theorem len0 : ([] : List EntD).length ≤ 100000 := by simp
set_option maxRecDepth 8000 in
set_option maxHeartbeats 4000000 in
theorem keys_ac (e : Evt) : AC Try.prog 12 [ev e] (ents (keysOf e)) := by
  refine AC.of_body Try.func12 rfl rfl Try.ntmps12 (congrArg Array.toList Try.results12) (by simp) (pures1 (pure_ev _)) (pureR_ents _) fun w S' => AWp.of_vc [] ?_
  have h1 := setOf_lenA [] 1 [] 0
  have h2 := setOf_lenA (setOf [] 1 [] 0) 3 [] 0
  have h3 := setOf_lenA (setOf (setOf [] 1 [] 0) 3 [] 0) 2 e.sender 0
  have h4 := setOf_lenA (setOf (setOf (setOf [] 1 [] 0) 3 [] 0) 2 e.sender 0) 2 e.key 0
  simp only [List.length_nil] at h1
  by_cases hc : e.kind = 1
  · simp [go_sem, hc]
    refine PostR.retW [] (r0 := .v (.slice none 0 0)) (by simp [go_sem]) ?_
    simp [keysOf, hc]
    exact .nil _
  simp [go_sem, hc]
  refine CallSem.by (set_ac [] 1 [] 0 len0) ⟨.nil _, .refl _, .refl _, .refl _, trivial⟩ (by simp [go_sem]) ?_
  simp [go_sem]
  refine CallSem.pure (set_ac (setOf [] 1 [] 0) 3 [] 0 (by omega)) (by simp [go_sem]) ?_
  simp [go_sem]
  refine CallSem.pure (set_ac (setOf (setOf [] 1 [] 0) 3 [] 0) 2 e.sender 0 (by omega)) (by simp [go_sem]) ?_
  by_cases hm : e.kind = 2
  · simp [go_sem, hm]
    refine CallSem.pure (set_ac (setOf (setOf (setOf [] 1 [] 0) 3 [] 0) 2 e.sender 0) 2 e.key 0 (by omega)) (by simp [go_sem]) ?_
    by_cases n3 : e.content.n = 3
    · simp [go_sem, n3]
      refine CallSem.pure (set_ac (setOf (setOf (setOf (setOf [] 1 [] 0) 3 [] 0) 2 e.sender 0) 2 e.key 0) 4 [] 0 (by omega)) (by simp [go_sem]) ?_
      simp [go_sem]
      refine PostR.ret ?_
      simp [go_sem, keysOf, hm, memOf, n3]
    by_cases n1 : e.content.n = 1
    · simp [go_sem, n1]
      refine CallSem.pure (set_ac (setOf (setOf (setOf (setOf [] 1 [] 0) 3 [] 0) 2 e.sender 0) 2 e.key 0) 4 [] 0 (by omega)) (by simp [go_sem]) ?_
      simp [go_sem]
      refine PostR.ret ?_
      simp [go_sem, keysOf, hm, memOf, n1]
    by_cases n2 : e.content.n = 2
    · simp [go_sem, n2]
      refine CallSem.pure (set_ac (setOf (setOf (setOf (setOf [] 1 [] 0) 3 [] 0) 2 e.sender 0) 2 e.key 0) 4 [] 0 (by omega)) (by simp [go_sem]) ?_
      simp [go_sem]
      refine PostR.ret ?_
      simp [go_sem, keysOf, hm, memOf, n2]
    simp [go_sem, n1, n2, n3]
    refine PostR.ret ?_
    simp [go_sem, keysOf, hm, memOf, n1, n2, n3]
  · simp [go_sem, hm]
    refine PostR.ret ?_
    simp [go_sem, keysOf, hc, hm]

end Go.Proofs.Ytebggldlhohkpaa
