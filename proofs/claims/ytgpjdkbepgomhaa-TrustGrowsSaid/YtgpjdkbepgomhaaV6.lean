/- Contracts of chapter 46: sample, Send. No condition. -/
import Derived.Test.YtgpjdkbepgomhaaV5
namespace Go.Proofs.Ytgpjdkbepgomhaa
open Go Go.Abs
set_option linter.unusedSimpArgs false
def sampleK : KeysD := ⟨[64, 98, 58, 115], 9, 0, [⟨[100], 1, true⟩, ⟨[101], 2, false⟩]⟩
set_option maxRecDepth 4000 in
set_option maxHeartbeats 2000000 in
theorem sample_ac : AC Try.prog 21 [] (ks sampleK) := by
  refine AC.of_body Try.func21 rfl rfl Try.ntmps21 (congrArg Array.toList Try.results21) (by simp) pures0 (pure_ks _) fun w S' => AWp.of_vc [] ?_
  simp [go_sem]
  refine PostR.ret ?_
  simp [go_sem, sampleK]

def sendStep (own other : KeysD) (verified : List Int) (blocked : List Bytes) (strict : Bool) (acc : Option (List Bytes)) (d : DevD) : Option (List Bytes) :=
  match acc with
  | none => none
  | some l => if trustOf own other d.id verified blocked = 0 then some l else if trustOf own other d.id verified blocked = 1 ∧ strict = true then none else some (l ++ [d.id])
def sendOf (own other : KeysD) (verified : List Int) (blocked : List Bytes) (strict : Bool) (ds : List DevD) : Option (List Bytes) := ds.foldl (sendStep own other verified blocked strict) (some [])
theorem send_none (own other : KeysD) (verified : List Int) (blocked : List Bytes) (strict : Bool) (ds : List DevD) : ds.foldl (sendStep own other verified blocked strict) none = none := by
  induction ds with
  | nil => rfl
  | cons d ds ih => exact ih
def sendAV (r : Option (List Bytes)) : AV :=
  match r with
  | none => .tup [strs [], I 28]
  | some l => .tup [strs l, I 0]

set_option maxRecDepth 4000 in
set_option maxHeartbeats 4000000 in
theorem send_ac (own other : KeysD) (verified : List Int) (blocked : List Bytes) (strict : Bool) (hu : other.user.length ≤ 1000) (hd : ∀ d ∈ other.devices, d.id.length ≤ 1000) (hn : other.devices.length ≤ 100000) :
    AC Try.prog 22 [ks own, ks other, ints verified, strs blocked, B strict] (sendAV (sendOf own other verified blocked strict other.devices)) := by
  refine AC.of_body Try.func22 rfl rfl Try.ntmps22 (congrArg Array.toList Try.results22) (by simp) (pures5 (pure_ks _) (pure_ks _) (pure_ints _) (pure_strs _) (pure_B _)) ?_ fun w S' => AWp.of_vc [] ?_
  · unfold sendAV
    split
    · intro r hr
      simp only [List.mem_cons, List.not_mem_nil, or_false] at hr
      rcases hr with rfl | rfl
      · exact pure_strs _
      · exact pure_I _
    · intro r hr
      simp only [List.mem_cons, List.not_mem_nil, or_false] at hr
      rcases hr with rfl | rfl
      · exact pure_strs _
      · exact pure_I _
  simp [go_sem]
  refine AWp.ownNil 12 9 1 (by simp [go_sem]) ?_
  refine AWp.loop_vc [] (fun m s => ∃ k v : Nat, ∃ acc : List Bytes, k ≤ other.devices.length ∧ m = other.devices.length - k ∧ s.σ 2 = ints verified ∧ s.σ 3 = strs blocked ∧ s.σ 4 = B strict ∧ s.σ 5 = .eptr (ksc own) 0 ∧ s.σ 6 = .eptr (ksc other) 0 ∧ s.σ 16 = dvs other.devices ∧ s.σ 17 = I other.devices.length ∧ s.σ 18 = I k ∧
    s.σ 12 = .ref 12 v ∧ s.ver 12 = v ∧ s.h 12 = .arr 9 1 (acc.map S) ∧ acc.length ≤ k ∧ sendOf own other verified blocked strict (other.devices.take k) = some acc) other.devices.length ⟨0, 1, [], by simp [go_sem, sendOf]⟩ ?_
  rintro m s ⟨k, v, acc, hk, rfl, h2, h3, h4, h5, h6, h16, h17, h18, h12, hv12, hh12, hal, hacc⟩
  have hstep : ∀ (h : k < other.devices.length), sendOf own other verified blocked strict (other.devices.take (k + 1)) = sendStep own other verified blocked strict (some acc) other.devices[k] := by
    intro h
    rw [List.take_succ_eq_append_getElem h]
    unfold sendOf at hacc ⊢
    rw [List.foldl_append, hacc]
    rfl
  by_cases hlt : k < other.devices.length
  · simp [go_sem, h2, h3, h4, h5, h6, h16, h17, h18, h12, hv12, hh12, hlt]
    refine CallSem.pure (trust_ac own other other.devices[k].id verified blocked hu (hd _ (List.getElem_mem hlt))) (by simp [go_sem]) ?_
    have hw : IntKind.i64.wrap ((k : Int) + 1) = (k : Int) + 1 := wrap_succ hlt (show other.devices.length ≤ maxLen by unfold maxLen; omega)
    have hback : ∀ (v' : Nat) (acc' : List Bytes), sendStep own other verified blocked strict (some acc) other.devices[k] = some acc' → acc'.length ≤ k + 1 → sendOf own other verified blocked strict (other.devices.take (k + 1)) = some acc' := fun _ acc' h _ => by rw [hstep hlt, h]
    by_cases t0 : trustOf own other other.devices[k].id verified blocked = 0
    · simp [go_sem, h2, h3, h4, h5, h6, h16, h17, h18, h12, hv12, hh12, hlt, t0]
      refine ⟨other.devices.length - (k + 1), by omega, k + 1, by omega, rfl, by rw [hw]; rfl, acc, rfl, by omega, ?_⟩
      exact hback v acc (by simp [sendStep, t0]) (by omega)
    · by_cases t1 : trustOf own other other.devices[k].id verified blocked = 1
      · cases strict with
        | true =>
          simp [go_sem, h2, h3, h4, h5, h6, h16, h17, h18, h12, hv12, hh12, hlt, t0, t1]
          have hnone : sendOf own other verified blocked true other.devices = none := by
            have e : other.devices = other.devices.take (k + 1) ++ other.devices.drop (k + 1) := (List.take_append_drop _ _).symm
            have h1 := hstep hlt
            have h1' : sendStep own other verified blocked true (some acc) other.devices[k] = none := by simp [sendStep, t1]
            rw [h1'] at h1
            unfold sendOf at h1 ⊢
            rw [e, List.foldl_append, h1, send_none]
          rw [hnone]
          refine PostR.retW [] (r0 := .tup [.v (.slice none 0 0), I 28]) ?_ (.tup ⟨.one (.nil _), .refl _, trivial⟩)
          simp [go_sem]
        | false =>
          simp [go_sem, h2, h3, h4, h5, h6, h16, h17, h18, h12, hv12, hh12, hlt, t0, t1]
          refine ⟨⟨by omega, by omega⟩, other.devices.length - (k + 1), by omega, k + 1, by omega, rfl, by rw [hw]; rfl, acc ++ [other.devices[k].id], by simp [S], by simp; omega, ?_⟩
          exact hback v _ (by simp [sendStep, t0, t1]) (by simp; omega)
      · simp [go_sem, h2, h3, h4, h5, h6, h16, h17, h18, h12, hv12, hh12, hlt, t0, t1]
        refine ⟨⟨by omega, by omega⟩, other.devices.length - (k + 1), by omega, k + 1, by omega, rfl, by rw [hw]; rfl, acc ++ [other.devices[k].id], by simp [S], by simp; omega, ?_⟩
        exact hback v _ (by simp [sendStep, t0, t1]) (by simp; omega)
  · simp [go_sem, h2, h3, h4, h5, h6, h16, h17, h18, h12, hv12, hh12, hlt]
    rw [List.take_of_length_le (by omega)] at hacc
    rw [hacc]
    refine PostR.retW [12] ?_ (.refl _)
    simp [go_sem, h12, hv12, hh12, sendAV]
end Go.Proofs.Ytgpjdkbepgomhaa
