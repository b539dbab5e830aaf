/- Contracts: the library's Clone; num.Sorted, num.Union. No condition. -/
import Derived.Test.YtckoolpjphhfdaaU3
import Derived.Test.YtckoolpjphhfdaaFs
import Derived.Test.YtckoolpjphhfdaaLa
namespace Go.Proofs.Ytckoolpjphhfdaa
open Go Go.Abs Go.Shelf
set_option linter.unusedSimpArgs false
set_option maxRecDepth 4000 in
set_option maxHeartbeats 1000000 in
theorem cloneI_ac (l : List Int) (hsz : l.length ≤ 1000000000) : AC Try.prog 45 [ints l] (.fresh 3 1 (l.map I)) := by
  refine AC.of_body Try.func45 rfl rfl Try.ntmps45 (congrArg Array.toList Try.results45) (by simp) (pures1 (pure_ints _)) (pureR_fresh_ints _ _) fun w S => AWp.of_vc [5] ?_
  simp [go_sem]
  refine ⟨?_, ?_⟩
  · refine ⟨⟨by omega, by omega⟩, ?_⟩
    refine PostR.ret ?_
    simp [go_sem]
  · rintro rfl
    refine PostR.retW [] (r0 := .v (.slice none 0 0)) ?_ (.fresh _ _)
    simp [go_sem]

/-- The elements in increasing order, each once, as the library makes them. -/
def sortedSet (l : List Int) : List Int := Lib.compact (l.mergeSort fun x y => decide (x ≤ y))

set_option maxRecDepth 4000 in
set_option maxHeartbeats 1000000 in
theorem numSorted_ac (l : List Int) (hsz : l.length ≤ 1000000000) : AC Try.prog 35 [ints l] (ints (sortedSet l)) := by
  refine AC.of_body Try.func35 rfl rfl Try.ntmps35 (congrArg Array.toList Try.results35) (by simp) (pures1 (pure_ints _)) (pureR_ints _) fun w S => AWp.of_vc [] ?_
  simp [go_sem]
  refine CallSem.pure (cloneI_ac l hsz) (by simp [go_sem]) ?_
  simp [go_sem]
  refine CallSem.sortInts (ρ := Try.laysSort_ren) (id := 5) (e := 3) (l := l) Try.laysSort ⟨_, Try.func46, rfl, rfl⟩ (by simp [go_sem]) (by simp [go_sem, Function.comp_def]; try rfl) (by simp [go_sem]) (by omega) ?_
  simp [go_sem]
  refine CallSem.compactInts (ρ := Try.laysCompact_ren) (id := 5) (e := 3) (l := l.mergeSort fun x y => decide (x ≤ y)) Try.laysCompact ⟨_, Try.func47, rfl, rfl⟩ (by simp [go_sem]) (by simp [go_sem]) (by simp [go_sem]) (compact_len _) ?_
  simp [go_sem]
  refine PostR.retW [5] ?_ (.refl _)
  simp [go_sem, sortedSet]


end Go.Proofs.Ytckoolpjphhfdaa
