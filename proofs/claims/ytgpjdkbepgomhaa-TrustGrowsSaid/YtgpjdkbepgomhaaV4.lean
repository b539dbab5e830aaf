/- Contracts of chapter 46: the reference's Of, Changed, Verify, of. No condition. -/
import Derived.Test.YtgpjdkbepgomhaaV3
namespace Go.Proofs.Ytgpjdkbepgomhaa
open Go Go.Abs
set_option linter.unusedSimpArgs false

theorem idx_find (l : List DevD) (d : Bytes) : (findD l d = none ∧ idxI (fun x => x.id == d) l = -1) ∨ ∃ k, ∃ h : k < l.length, findD l d = some l[k] ∧ idxI (fun x => x.id == d) l = (k : Int) := by
  unfold idxI findD
  cases h : l.findIdx? (fun x => x.id == d) with
  | none =>
    refine .inl ⟨?_, rfl⟩
    rw [List.find?_eq_none]
    rw [List.findIdx?_eq_none_iff] at h
    exact fun x hx => by simp [h x hx]
  | some k =>
    rw [List.findIdx?_eq_some_iff_getElem] at h
    obtain ⟨h1, h2, h3⟩ := h
    refine .inr ⟨k, h1, ?_, rfl⟩
    rw [List.find?_eq_some_iff_getElem]
    exact ⟨h2, k, h1, rfl, fun j hj => by simpa using h3 j hj⟩

set_option maxRecDepth 4000 in
set_option maxHeartbeats 2000000 in
theorem refOf_ac (own other : KeysD) (device : Bytes) (verified : List Int) (blocked : List Bytes) (hu : other.user.length ≤ 1000) (hd : device.length ≤ 1000) :
    AC Try.prog 10 [ks own, ks other, S device, ints verified, strs blocked] (I (trustOf own other device verified blocked)) := by
  refine AC.of_body Try.func10 rfl rfl Try.ntmps10 (congrArg Array.toList Try.results10) (by simp) (pures5 (pure_ks _) (pure_ks _) (pure_S _) (pure_ints _) (pure_strs _)) (pure_I _) fun w S' => AWp.of_vc [] ?_
  have l1 : ¬ (9223372036854775807 < (other.user.length : Int) + 1) := by omega
  have l2 : ¬ (9223372036854775807 < (other.user.length : Int) + 1 + device.length) := by omega
  simp [go_sem]
  refine CallSem.pure (place_ac other.devices device) (by simp [go_sem]) ?_
  rcases idx_find other.devices device with ⟨hf, hi⟩ | ⟨k, hk, hf, hi⟩
  · simp [go_sem, hi]
    refine PostR.ret ?_
    simp [go_sem, trustOf, hf]
  · have hneg : ¬ ((k : Int) < 0) := by omega
    simp [go_sem, hi, hneg, l1, l2]
    refine CallSem.pure (hasText_ac blocked (other.user ++ 47 :: device)) (by simp [go_sem]) ?_
    by_cases hb : other.user ++ 47 :: device ∈ blocked
    · simp [go_sem, hb]
      refine PostR.ret ?_
      simp [go_sem, trustOf, hf, hb]
    · rcases Bool.eq_false_or_eq_true other.devices[k].signed with hs | hs
      · by_cases hm : other.master = 0
        · simp [go_sem, hb, hs, hm, hi, hk]
          refine PostR.ret ?_
          simp [go_sem, trustOf, hf, hb, hs, hm]
        · simp [go_sem, hb, hs, hm, hi, hk]
          refine CallSem.pure (has_ac verified other.master) (by simp [go_sem]) ?_
          by_cases hv : other.master ∈ verified
          · simp [go_sem, hv]
            refine PostR.ret ?_
            simp [go_sem, trustOf, hf, hb, hs, hm, hv]
          · by_cases ho : own.user = other.user
            · by_cases hw : own.master = other.master
              · simp [go_sem, hv, ho, hw]
                refine PostR.ret ?_
                simp [go_sem, trustOf, hf, hb, hs, hm, hv, ho, hw]
              · simp [go_sem, hv, ho, hw]
                refine PostR.ret ?_
                simp [go_sem, trustOf, hf, hb, hs, hm, hv, ho, hw]
            · simp [go_sem, hv, ho]
              refine PostR.ret ?_
              simp [go_sem, trustOf, hf, hb, hs, hm, hv, ho]
      · simp [go_sem, hb, hs, hi, hk]
        refine PostR.ret ?_
        simp [go_sem, trustOf, hf, hb, hs]

set_option maxRecDepth 4000 in
set_option maxHeartbeats 2000000 in
theorem of_ac (c : CaseD) (hu : c.other.user.length ≤ 1000) (hd : c.device.length ≤ 1000) :
    AC Try.prog 9 [cs c] (I (trustOf c.own c.other c.device c.verified c.blocked)) := by
  refine AC.of_body Try.func9 rfl rfl Try.ntmps9 (congrArg Array.toList Try.results9) (by simp) (pures1 (pure_cs _)) (pure_I _) fun w S' => AWp.of_vc [] ?_
  simp [go_sem]
  refine CallSem.pure (trust_ac c.own c.other c.device c.verified c.blocked hu hd) (by simp [go_sem]) ?_
  simp [go_sem]
  refine PostR.ret ?_
  simp [go_sem]

def changedOf (old next : KeysD) : Bool := decide (old.master ≠ 0 ∧ next.master ≠ old.master)
set_option maxRecDepth 4000 in
set_option maxHeartbeats 2000000 in
theorem changed_ac (old next : KeysD) : AC Try.prog 16 [ks old, ks next] (B (changedOf old next)) := by
  refine AC.of_body Try.func16 rfl rfl Try.ntmps16 (congrArg Array.toList Try.results16) (by simp) (pures2 (pure_ks _) (pure_ks _)) (pure_B _) fun w S' => AWp.of_vc [] ?_
  by_cases h0 : old.master = 0
  · simp [go_sem, h0]
    refine PostR.ret ?_
    simp [go_sem, changedOf, h0]
  · simp [go_sem, h0]
    refine PostR.ret ?_
    by_cases h1 : next.master = old.master
    · simp [go_sem, changedOf, h0, h1]
    · simp [go_sem, changedOf, h0, h1]
set_option maxRecDepth 4000 in
set_option maxHeartbeats 2000000 in
theorem refChanged_ac (old next : KeysD) : AC Try.prog 17 [ks old, ks next] (B (changedOf old next)) := by
  refine AC.of_body Try.func17 rfl rfl Try.ntmps17 (congrArg Array.toList Try.results17) (by simp) (pures2 (pure_ks _) (pure_ks _)) (pure_B _) fun w S' => AWp.of_vc [] ?_
  by_cases h0 : old.master = 0
  · simp [go_sem, h0]
    refine PostR.ret ?_
    simp [go_sem, changedOf, h0]
  · simp [go_sem, h0]
    refine PostR.ret ?_
    by_cases h1 : next.master = old.master
    · simp [go_sem, changedOf, h0, h1]
    · simp [go_sem, changedOf, h0, h1]

def verifyL (l : List Int) (m : Int) : List Int := if 0 < m then putL (sortedL l) m else sortedL l
theorem sortedL_union (l : List Int) (m : Int) : sortedL (l ++ [m]) = putL (sortedL l) m := by simp [sortedL]
theorem sortedL_len (l : List Int) : (sortedL l).length ≤ l.length := by have := foldl_putL_len l []; simpa [sortedL] using this

set_option maxRecDepth 4000 in
set_option maxHeartbeats 2000000 in
theorem verify_ac (l : List Int) (m : Int) (hsz : l.length ≤ 100000) : AC Try.prog 12 [ints l, I m] (ints (verifyL l m)) := by
  refine AC.of_body Try.func12 rfl rfl Try.ntmps12 (congrArg Array.toList Try.results12) (by simp) (pures2 (pure_ints _) (pure_I _)) (pureR_ints _) fun w S' => AWp.of_vc [] ?_
  by_cases h0 : m ≤ 0
  · simp [go_sem, h0]
    refine CallSem.pure (numSorted_ac l (by omega)) (by simp [go_sem]) ?_
    simp [go_sem]
    refine PostR.ret ?_
    have : ¬ 0 < m := by omega
    simp [go_sem, verifyL, this, sortedSet_eq]
  · simp [go_sem, h0]
    refine CallSem.by (numUnion_ac l [m] (by simp; omega)) ⟨.refl _, .refl _, trivial⟩ (by simp [go_sem]) ?_
    simp [go_sem]
    refine PostR.ret ?_
    have : 0 < m := by omega
    simp [go_sem, verifyL, this, sortedSet_eq, sortedL_union]
set_option maxRecDepth 4000 in
set_option maxHeartbeats 2000000 in
theorem refVerify_ac (l : List Int) (m : Int) (hsz : l.length ≤ 100000) : AC Try.prog 13 [ints l, I m] (ints (verifyL l m)) := by
  refine AC.of_body Try.func13 rfl rfl Try.ntmps13 (congrArg Array.toList Try.results13) (by simp) (pures2 (pure_ints _) (pure_I _)) (pureR_ints _) fun w S' => AWp.of_vc [] ?_
  simp [go_sem]
  refine CallSem.pure (sorted_ac l (by omega)) (by simp [go_sem]) ?_
  by_cases h0 : 0 < m
  · simp [go_sem, h0]
    refine CallSem.pure (put_ac (sortedL l) m (by have := sortedL_len l; omega)) (by simp [go_sem]) ?_
    simp [go_sem]
    refine PostR.ret ?_
    simp [go_sem, verifyL, h0]
  · simp [go_sem, h0]
    refine PostR.ret ?_
    simp [go_sem, verifyL, h0]
end Go.Proofs.Ytgpjdkbepgomhaa
