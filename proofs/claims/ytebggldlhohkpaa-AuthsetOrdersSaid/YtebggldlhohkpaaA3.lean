/- Contracts of chapter 15: the keys of an event as pairs. No condition. -/
import Derived.Test.YtebggldlhohkpaaA2
namespace Go.Proofs.Ytebggldlhohkpaa
open Go Go.Abs
set_option linter.unusedSimpArgs false
def kenc (k : EntD) : List AV := [I k.kind, S k.key]
def kp (k : EntD) : AV := .agg (kenc k)
def kps (l : List EntD) : AV := .lst 2 (l.map kp)
theorem pure_kenc (d : EntD) : ∀ c ∈ kenc d, Pure c := fun c hc => by
  simp only [kenc, List.mem_cons, List.not_mem_nil, or_false] at hc
  rcases hc with rfl | rfl <;> exact pure_v _
theorem pure_kp (d : EntD) : Pure (kp d) := pure_agg (pure_kenc d)
theorem pure_kps (l : List EntD) : Pure (kps l) := pure_lst fun x hx c hc => by
  obtain ⟨d, _, rfl⟩ := List.mem_map.1 hx
  exact pure_kenc d c hc
theorem okAll_kps (st : St) (l : List EntD) : okAll st (l.map kp) := fun c hc => by obtain ⟨n, _, rfl⟩ := List.mem_map.1 hc; rfl
theorem kps_len (l : List EntD) : (l.map kp).length = l.length := by simp
attribute [go_sem] okAll_kps kenc kp kps
theorem pureR_kps (l : List EntD) : PureR (kps l) := pure_kps l
set_option maxRecDepth 8000 in
set_option maxHeartbeats 4000000 in
theorem at_ac (k x : EntD) : AC Try.prog 31 [kp k, ent x] (B (isKey k.kind k.key x)) := by
  refine AC.of_body Try.func31 rfl rfl Try.ntmps31 (congrArg Array.toList Try.results31) (by simp) (pures2 (pure_kp _) (pure_ent _)) (pure_B _) fun w S' => AWp.of_vc [] ?_
  by_cases h1 : x.kind = k.kind
  · simp [go_sem, h1]
    refine PostR.ret ?_
    simp [go_sem, isKey, h1]
  · simp [go_sem, h1]
    refine PostR.ret ?_
    simp [go_sem, isKey, h1]

set_option maxRecDepth 8000 in
set_option maxHeartbeats 4000000 in
theorem in_ac (k : EntD) (e : Evt) : AC Try.prog 40 [kp k, ev e] (B (e.kind == k.kind && e.key == k.key)) := by
  refine AC.of_body Try.func40 rfl rfl Try.ntmps40 (congrArg Array.toList Try.results40) (by simp) (pures2 (pure_kp _) (pure_ev _)) (pure_B _) fun w S' => AWp.of_vc [] ?_
  by_cases h1 : e.kind = k.kind
  · simp [go_sem, h1]
    refine PostR.ret ?_
    simp [go_sem, h1]
  · simp [go_sem, h1]
    refine PostR.ret ?_
    simp [go_sem, h1]

set_option maxRecDepth 8000 in
set_option maxHeartbeats 4000000 in
theorem keysP_ac (e : Evt) : AC Try.prog 32 [ev e] (kps (keysOf e)) := by
  refine AC.of_body Try.func32 rfl rfl Try.ntmps32 (congrArg Array.toList Try.results32) (by simp) (pures1 (pure_ev _)) (pureR_kps _) fun w S' => AWp.of_vc [] ?_
  have hle := keysOf_len e
  have hm : (keysOf e).length ≤ maxLen := by unfold maxLen; omega
  generalize hL : keysOf e = L at hle hm ⊢
  simp [go_sem]
  refine CallSem.pure (keys_ac e) (by simp [go_sem]) ?_
  rw [hL]
  simp [go_sem]
  refine AWp.ownNil 3 66 2 (by simp [go_sem]) ?_
  refine AWp.loop_vc [] (fun m s => ∃ q v : Nat, q ≤ L.length ∧ m = L.length - q ∧ s.σ 7 = ents L ∧ s.σ 8 = I L.length ∧ s.σ 9 = I q ∧ s.σ 3 = .ref 3 v ∧ s.ver 3 = v ∧ s.h 3 = .arr 66 2 ((L.take q).map kp)) L.length ⟨0, 1, by simp [go_sem]⟩ ?_
  rintro m s ⟨q, v, hq, rfl, h7, h8, h9, h3, hv3, hh3⟩
  by_cases hlt : q < L.length
  · simp [go_sem, h7, h8, h9, h3, hv3, hh3, hlt, wrap_succ hlt hm]
    refine ⟨⟨by omega, by omega⟩, L.length - (q + 1), by omega, q + 1, by omega, rfl, rfl, ?_⟩
    rw [← List.map_take, ← List.map_take, List.take_succ_eq_append_getElem hlt]
    simp only [List.map_append, List.map_cons, List.map_nil]
    rfl
  · simp [go_sem, h7, h8, h9, h3, hv3, hh3, hlt]
    rw [List.take_of_length_le (by omega)] at hh3
    refine PostR.retW [3] ?_ (.refl _)
    simp [go_sem, h3, hv3, hh3]

end Go.Proofs.Ytebggldlhohkpaa
