/- The laws of chapter 46, as contracts: TrustLists. No condition. -/
import Derived.Test.YtgpjdkbepgomhaaW1
namespace Go.Proofs.Ytgpjdkbepgomhaa
open Go Go.Abs
set_option linter.unusedSimpArgs false
theorem AC.wk {P : Program} {f : FuncId} {args args' : List AV} {r : AV} (h : AC P f args' r) (hw : WkL args args') (hp : ∀ p ∈ args, Pure p) : AC P f args r := by
  obtain ⟨hl, hget⟩ := hw.get
  refine ⟨h.fn, hp, h.pres, fun S w vs hS hsz hv => h.run S w vs hS (by omega) fun i p' hp' => ?_⟩
  have hi : i < args.length := by rw [hl]; exact (List.getElem?_eq_some_iff.1 hp').1
  exact (hget i args[i] p' (List.getElem?_eq_getElem hi) hp').sound (hv i args[i] (List.getElem?_eq_getElem hi))
def keyOf (m : Int) : KeysD := ⟨[], m, 0, []⟩
def keyAV (m : Int) : AV := .agg [S [], I m, I 0, .v (.slice none 0 0)]
theorem pure_keyAV (m : Int) : Pure (keyAV m) := pure_agg fun c hc => by
  simp only [List.mem_cons, List.not_mem_nil, or_false] at hc
  rcases hc with rfl | rfl | rfl | rfl <;> exact pure_v _
theorem wk_key (m : Int) : Wk (keyAV m) (ks (keyOf m)) := .agg ⟨.refl _, .refl _, .refl _, .nil _, trivial⟩
theorem chA (m n : Int) : AC Try.prog 16 [keyAV m, keyAV n] (B (changedOf (keyOf m) (keyOf n))) := AC.wk (changed_ac _ _) ⟨wk_key _, wk_key _, trivial⟩ (pures2 (pure_keyAV _) (pure_keyAV _))
theorem chB (m n : Int) : AC Try.prog 17 [keyAV m, keyAV n] (B (changedOf (keyOf m) (keyOf n))) := AC.wk (refChanged_ac _ _) ⟨wk_key _, wk_key _, trivial⟩ (pures2 (pure_keyAV _) (pure_keyAV _))
set_option maxRecDepth 8000 in
set_option maxHeartbeats 4000000 in
theorem trustLists_law (l : List Int) (master : Int) (t : List Int) : AC Try.prog 4 [ints l, I master, ints t] (B true) := by
  refine AC.of_body Try.func4 rfl rfl Try.ntmps4 (congrArg Array.toList Try.results4) (by simp) (pures3 (pure_ints _) (pure_I _) (pure_ints _)) (pure_B _) fun w S' => AWp.of_vc [] ?_
  by_cases g1 : (60 : Int) < l.length
  · simp [go_sem, g1]
    refine CallSem.pure lives_ac (by simp [go_sem]) ?_
    simp [go_sem]
    refine PostR.ret ?_
    simp [go_sem]
  by_cases g2 : (60 : Int) < t.length
  · simp [go_sem, g1, g2]
    refine CallSem.pure lives_ac (by simp [go_sem]) ?_
    simp [go_sem]
    refine PostR.ret ?_
    simp [go_sem]
  simp [go_sem, g1, g2]
  refine AWp.drawAll rfl (by kernel_rfl) ?_
  simp [go_sem]
  refine CalmThen.pure (verify_ac l master (by omega)) (by simp [go_sem]) ?_
  simp [go_sem]
  refine CalmThen.pure (refVerify_ac l master (by omega)) (by simp [go_sem]) ?_
  simp [go_sem]
  refine CalmThen.pure (same_ac (verifyL l master) (verifyL l master)) (by simp [go_sem]) ?_
  simp [go_sem]
  refine CalmThen.pure (shield_ac t) (by simp [go_sem]) ?_
  simp [go_sem]
  refine CalmThen.pure (refShield_ac t) (by simp [go_sem]) ?_
  simp [go_sem]
  refine CalmThen.pure (chA master l.length) (by simp [go_sem, keyAV]) ?_
  simp [go_sem]
  refine CalmThen.pure (chB master l.length) (by simp [go_sem, keyAV]) ?_
  simp [go_sem]
  refine CalmThen.pure (chA 0 master) (by simp [go_sem, keyAV]) ?_
  have e0 : changedOf (keyOf 0) (keyOf master) = false := by simp [changedOf, keyOf]
  rw [e0]
  simp [go_sem]
  refine CalmThen.pure lives_ac (by simp [go_sem]) ?_
  simp [go_sem]
  refine PostR.ret ?_
  simp [go_sem]
end Go.Proofs.Ytgpjdkbepgomhaa
