/- Contracts of chapter 10: Set, Same, all, and the reference's. No condition. -/
import Derived.Test.YtebggldlhohkpaaS4
namespace Go.Proofs.Ytebggldlhohkpaa
open Go Go.Abs
set_option linter.unusedSimpArgs false
def setOf (s : List EntD) (k : Int) (key : Bytes) (id : Int) : List EntD :=
  s.take (fidx s ⟨k, key, 0⟩) ++ ⟨k, key, id⟩ :: s.drop (if fok s ⟨k, key, 0⟩ = true then fidx s ⟨k, key, 0⟩ + 1 else fidx s ⟨k, key, 0⟩)
theorem takeWhile_at {α : Type} (p : α → Bool) : ∀ (l : List α) (e : α), l[(l.takeWhile p).length]? = some e → p e = false
  | [], e, h => by simp at h
  | x :: l, e, h => by
    by_cases hx : p x = true
    · simp only [List.takeWhile_cons, hx, if_true, List.length_cons, List.getElem?_cons_succ] at h
      exact takeWhile_at p l e h
    · simp only [List.takeWhile_cons, hx, Bool.false_eq_true, if_false, List.length_nil, List.getElem?_cons_zero, Option.some.injEq] at h
      subst h; simpa using hx
theorem fidx_at {s : List EntD} {x : EntD} (h : fidx s x < s.length) : prec s[fidx s x] x = false := by
  unfold fidx at h ⊢
  exact takeWhile_at (fun e : EntD => prec e x) s _ (List.getElem?_eq_getElem h)
theorem fok_iff {s : List EntD} {x : EntD} (h : fidx s x < s.length) : fok s x = true ↔ s[fidx s x].kind = x.kind ∧ s[fidx s x].key = x.key := by
  have h1 := fidx_at h
  unfold fok
  rw [List.getElem?_eq_getElem h]
  simp only [Option.elim_some, Bool.not_eq_true']
  constructor
  · exact fun h2 => prec_total _ _ h1 h2
  · rintro ⟨e1, e2⟩
    simp [prec, e1, e2, bl_irrefl]
theorem fok_out {s : List EntD} {x : EntD} (h : ¬ fidx s x < s.length) : fok s x = false := by
  cases hf : fok s x with
  | false => rfl
  | true => exact (h (fok_lt hf)).elim

set_option maxRecDepth 8000 in
set_option maxHeartbeats 4000000 in
theorem set_ac (s : List EntD) (k : Int) (key : Bytes) (id : Int) (hsz : s.length ≤ 100000) : AC Try.prog 29 [ents s, I k, S key, I id] (ents (setOf s k key id)) := by
  refine AC.of_body Try.func29 rfl rfl Try.ntmps29 (congrArg Array.toList Try.results29) (by simp) (pures4 (pure_ents _) (pure_I _) (pure_S _) (pure_I _)) (pureR_ents _) fun w S' => AWp.of_vc [19] ?_
  simp [go_sem]
  refine CallSem.pure (find_ac s k key) (by simp [go_sem]) ?_
  have hle := fidx_le s ⟨k, key, 0⟩
  cases hf : fok s ⟨k, key, 0⟩ with
  | true =>
    have hlt := fok_lt hf
    have t1 : (0 : Int) ≤ (fidx s ⟨k, key, 0⟩ : Int) + 1 := by omega
    have t2 : ((fidx s ⟨k, key, 0⟩ : Int) + 1).toNat = fidx s ⟨k, key, 0⟩ + 1 := by omega
    have t3 : fidx s ⟨k, key, 0⟩ + 1 ≤ s.length := hlt
    simp [go_sem, hle, t1, t2, t3, wrap_succ hlt (show s.length ≤ maxLen by unfold maxLen; omega)]
    refine ⟨⟨by omega, by omega⟩, ⟨by omega, by omega⟩, ⟨by omega, by omega⟩, ?_⟩
    refine PostR.retW [19] ?_ (.refl _)
    simp [go_sem, setOf, hf, List.map_take, List.map_drop]
    exact List.take_of_length_le (by simp)
  | false =>
    simp [go_sem, hle]
    refine ⟨⟨by omega, by omega⟩, ⟨by omega, by omega⟩, ⟨by omega, by omega⟩, ?_⟩
    refine PostR.retW [19] ?_ (.refl _)
    simp [go_sem, setOf, hf, List.map_take, List.map_drop]
    exact List.take_of_length_le (by simp)
set_option maxRecDepth 8000 in
set_option maxHeartbeats 4000000 in
theorem rsame_ac (a b : List EntD) : AC Try.prog 11 [ents a, ents b] (B (decide (a = b))) := by
  refine AC.of_body Try.func11 rfl rfl Try.ntmps11 (congrArg Array.toList Try.results11) (by simp) (pures2 (pure_ents _) (pure_ents _)) (pure_B _) fun w S' => AWp.bound 0 rfl fun hlen => AWp.of_vc [] ?_
  rw [ents_len] at hlen
  by_cases hab : a.length = b.length
  case neg =>
    have hab' : ¬ (a.length : Int) = b.length := by omega
    simp [go_sem, hab, hab']
    refine PostR.ret ?_
    simp [go_sem]
    intro h; exact hab (by rw [h])
  simp [go_sem, hab]
  refine AWp.loop_vc [] (fun m s => ∃ k : Nat, k ≤ a.length ∧ m = a.length - k ∧ s.σ 0 = ents a ∧ s.σ 1 = ents b ∧ s.σ 5 = I k ∧ a.take k = b.take k) a.length ⟨0, by simp [go_sem]⟩ ?_
  rintro m s ⟨k, hk, rfl, h0, h1, h5, hno⟩
  by_cases hlt : k < a.length
  · have hlt' : k < b.length := by omega
    have bad : a[k] ≠ b[k] → decide (a = b) = false := fun h => by
      simp only [decide_eq_false_iff_not]
      rintro rfl
      exact h rfl
    simp [go_sem, h0, h1, h5, hlt, hlt']
    refine AWp.drawAll rfl (by kernel_rfl) ?_
    by_cases e1 : a[k].kind = b[k].kind
    · by_cases e2 : a[k].key = b[k].key
      · by_cases e3 : a[k].id = b[k].id
        · have hp : a[k] = b[k] := by cases ha : a[k]; cases hb : b[k]; simp_all
          simp [go_sem, h0, h1, h5, hlt, hlt', e1, e2, e3, wrap_succ hlt hlen]
          refine ⟨a.length - (k + 1), by omega, k + 1, by omega, rfl, rfl, ?_⟩
          rw [List.take_succ_eq_append_getElem hlt, List.take_succ_eq_append_getElem hlt', hno, hp]
        · simp [go_sem, h0, h1, h5, hlt, hlt', e1, e2, e3]
          refine PostR.ret ?_
          rw [bad fun h => e3 (by rw [h])]
          simp [go_sem]
      · have e2' : (a[k].key == b[k].key) = false := by simp [e2]
        simp [go_sem, h0, h1, h5, hlt, hlt', e1, e2, e2']
        refine PostR.ret ?_
        rw [bad fun h => e2 (by rw [h])]
        simp [go_sem]
    · simp [go_sem, h0, h1, h5, hlt, hlt', e1]
      refine PostR.ret ?_
      rw [bad fun h => e1 (by rw [h])]
      simp [go_sem]
  · simp [go_sem, h0, h1, h5, hlt]
    refine PostR.ret ?_
    simp [go_sem]
    rw [List.take_of_length_le (by omega), List.take_of_length_le (by omega)] at hno
    exact hno

end Go.Proofs.Ytebggldlhohkpaa
