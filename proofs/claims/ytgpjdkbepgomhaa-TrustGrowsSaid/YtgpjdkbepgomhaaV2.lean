/- Contracts of chapter 46: find, rule. No condition. -/
import Derived.Test.YtgpjdkbepgomhaaV1
namespace Go.Proofs.Ytgpjdkbepgomhaa
open Go Go.Abs
set_option linter.unusedSimpArgs false
def findD (l : List DevD) (d : Bytes) : Option DevD := l.find? fun x => x.id == d
def zeroDev : DevD := ⟨[], 0, false⟩
theorem findD_hit {l : List DevD} {d : Bytes} {k : Nat} (hk : k < l.length) (hp : l[k].id = d) (hno : ∀ j (x : DevD), j < k → l[j]? = some x → (x.id == d) = false) : findD l d = some l[k] := by
  unfold findD
  rw [List.find?_eq_some_iff_getElem]
  refine ⟨by simp [hp], k, hk, rfl, fun j hj => ?_⟩
  have := hno j l[j] hj (List.getElem?_eq_getElem (by omega))
  simp [this]
theorem findD_miss {l : List DevD} {d : Bytes} (hno : ∀ (j : Nat) (x : DevD), l[j]? = some x → (x.id == d) = false) : findD l d = none := by
  unfold findD
  rw [List.find?_eq_none]
  intro x hx
  obtain ⟨j, hj⟩ := List.mem_iff_getElem?.1 hx
  simp [hno j x hj]

set_option maxRecDepth 4000 in
set_option maxHeartbeats 1000000 in
theorem find_ac (o : KeysD) (d : Bytes) : AC Try.prog 33 [ks o, S d] (.tup [dv ((findD o.devices d).getD zeroDev), B (findD o.devices d).isSome]) := by
  refine AC.of_body Try.func33 rfl rfl Try.ntmps33 (congrArg Array.toList Try.results33) (by simp) (pures2 (pure_ks _) (pure_S _)) ?_ fun w S' => AWp.of_vc [] ?_
  · intro r hr
    simp only [List.mem_cons, List.not_mem_nil, or_false] at hr
    rcases hr with rfl | rfl
    · exact pure_dv _
    · exact pure_B _
  simp [go_sem]
  refine AWp.bound 9 (sz := 3) (xs := o.devices.map dv) (by simp [go_sem]) fun hlen => ?_
  rw [dvs_len] at hlen
  refine AWp.loop_vc [] (fun m s => ∃ k : Nat, k ≤ o.devices.length ∧ m = o.devices.length - k ∧ s.σ 1 = S d ∧ s.σ 4 = .rptr 4 1 0 0 ∧ s.ver 4 = 1 ∧ s.h 4 = .box [S [], I 0, B false] ∧ s.σ 9 = dvs o.devices ∧ s.σ 10 = I o.devices.length ∧ s.σ 11 = I k ∧
    ∀ j (x : DevD), j < k → o.devices[j]? = some x → (x.id == d) = false) o.devices.length ⟨0, by simp [go_sem]⟩ ?_
  rintro m s ⟨k, hk, rfl, h1, h4, hv4, hh4, h9, h10, h11, hno⟩
  by_cases hlt : k < o.devices.length
  · simp [go_sem, h1, h4, hv4, hh4, h9, h10, h11, hlt]
    by_cases hp : o.devices[k].id = d
    · simp [go_sem, h1, h4, hv4, hh4, h9, h10, h11, hlt, hp]
      refine PostR.ret ?_
      rw [findD_hit hlt hp hno]
      simp [go_sem, h1, h4, hv4, hh4, h9, h10, h11, hlt, hp]
    · simp [go_sem, h1, h4, hv4, hh4, h9, h10, h11, hlt, hp]
      refine ⟨o.devices.length - (k + 1), by omega, k + 1, by omega, rfl, by rw [wrap_succ hlt hlen]; rfl, ?_⟩
      intro j x hj hx
      rcases Nat.lt_succ_iff_lt_or_eq.1 hj with hj | rfl
      · simpa using hno j x hj hx
      · rw [List.getElem?_eq_getElem hlt] at hx; cases hx; exact hp
  · simp [go_sem, h1, h4, hv4, hh4, h9, h10, h11, hlt]
    refine PostR.ret ?_
    rw [findD_miss fun j x hx => hno j x (by have := (List.getElem?_eq_some_iff.1 hx).1; omega) hx]
    simp [go_sem, h1, h4, hv4, hh4, zeroDev]
end Go.Proofs.Ytgpjdkbepgomhaa
