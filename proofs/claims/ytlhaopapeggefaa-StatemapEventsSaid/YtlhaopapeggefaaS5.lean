/- Contracts of chapter 10: Set, Same, all, and the reference's. No condition. -/
import Derived.Test.YtlhaopapeggefaaS4
namespace Go.Proofs.Ytlhaopapeggefaa
open Go Go.Abs
set_option linter.unusedSimpArgs false
def setOf (s : List EntD) (k : Int) (key : Bytes) (id : Int) : List EntD :=
  s.take (fidx s ⟨k, key, 0⟩) ++ ⟨k, key, id⟩ :: s.drop (if fok s ⟨k, key, 0⟩ = true then fidx s ⟨k, key, 0⟩ + 1 else fidx s ⟨k, key, 0⟩)
theorem takeWhile_at {α : Type} (p : α → Bool) : ∀ (l : List α) (e : α), l[(l.takeWhile p).length]? = some e → p e = false
  | [], e, h => by simp at h
  | x :: l, e, h => by
    by_cases hx : p x = true
    · simp only [List.takeWhile_cons, hx, if_true, List.length_cons, List.getElem?_cons_succ] at h
      exact takeWhile_at p l e h
    · simp only [List.takeWhile_cons, hx, Bool.false_eq_true, if_false, List.length_nil, List.getElem?_cons_zero, Option.some.injEq] at h
      subst h; simpa using hx
theorem fidx_at {s : List EntD} {x : EntD} (h : fidx s x < s.length) : prec s[fidx s x] x = false := by
  unfold fidx at h ⊢
  exact takeWhile_at (fun e : EntD => prec e x) s _ (List.getElem?_eq_getElem h)
theorem fok_iff {s : List EntD} {x : EntD} (h : fidx s x < s.length) : fok s x = true ↔ s[fidx s x].kind = x.kind ∧ s[fidx s x].key = x.key := by
  have h1 := fidx_at h
  unfold fok
  rw [List.getElem?_eq_getElem h]
  simp only [Option.elim_some, Bool.not_eq_true']
  constructor
  · exact fun h2 => prec_total _ _ h1 h2
  · rintro ⟨e1, e2⟩
    simp [prec, e1, e2, bl_irrefl]
theorem fok_out {s : List EntD} {x : EntD} (h : ¬ fidx s x < s.length) : fok s x = false := by
  cases hf : fok s x with
  | false => rfl
  | true => exact (h (fok_lt hf)).elim

set_option maxRecDepth 8000 in
set_option maxHeartbeats 4000000 in
theorem set_ac (s : List EntD) (k : Int) (key : Bytes) (id : Int) (hsz : s.length ≤ 100000) : AC Try.prog 18 [ents s, I k, S key, I id] (ents (setOf s k key id)) := by
  refine AC.of_body Try.func18 rfl rfl Try.ntmps18 (congrArg Array.toList Try.results18) (by simp) (pures4 (pure_ents _) (pure_I _) (pure_S _) (pure_I _)) (pureR_ents _) fun w S' => AWp.of_vc [19] ?_
  simp [go_sem]
  refine CallSem.pure (find_ac s k key) (by simp [go_sem]) ?_
  have hle := fidx_le s ⟨k, key, 0⟩
  cases hf : fok s ⟨k, key, 0⟩ with
  | true =>
    have hlt := fok_lt hf
    have t1 : (0 : Int) ≤ (fidx s ⟨k, key, 0⟩ : Int) + 1 := by omega
    have t2 : ((fidx s ⟨k, key, 0⟩ : Int) + 1).toNat = fidx s ⟨k, key, 0⟩ + 1 := by omega
    have t3 : fidx s ⟨k, key, 0⟩ + 1 ≤ s.length := hlt
    simp [go_sem, hle, t1, t2, t3, wrap_succ hlt (show s.length ≤ maxLen by unfold maxLen; omega)]
    refine ⟨⟨by omega, by omega⟩, ⟨by omega, by omega⟩, ⟨by omega, by omega⟩, ?_⟩
    refine PostR.retW [19] ?_ (.refl _)
    simp [go_sem, setOf, hf, List.map_take, List.map_drop]
    exact List.take_of_length_le (by simp)
  | false =>
    simp [go_sem, hle]
    refine ⟨⟨by omega, by omega⟩, ⟨by omega, by omega⟩, ⟨by omega, by omega⟩, ?_⟩
    refine PostR.retW [19] ?_ (.refl _)
    simp [go_sem, setOf, hf, List.map_take, List.map_drop]
    exact List.take_of_length_le (by simp)
set_option maxRecDepth 8000 in
set_option maxHeartbeats 4000000 in
theorem rset_ac (s : List EntD) (k : Int) (key : Bytes) (id : Int) (hsz : s.length ≤ 100000) : AC Try.prog 19 [ents s, I k, S key, I id] (ents (setOf s k key id)) := by
  refine AC.of_body Try.func19 rfl rfl Try.ntmps19 (congrArg Array.toList Try.results19) (by simp) (pures4 (pure_ents _) (pure_I _) (pure_S _) (pure_I _)) (pureR_ents _) fun w S' => AWp.of_vc [32] ?_
  have hm : s.length ≤ maxLen := by unfold maxLen; omega
  simp [go_sem]
  refine AWp.loop_vc [32] (fun m s' => ∃ q : Nat, q ≤ s.length ∧ m = s.length - q ∧ s'.σ 0 = ents s ∧ s'.σ 1 = I k ∧ s'.σ 2 = S key ∧ s'.σ 3 = I id ∧ s'.σ 9 = I q ∧ ∀ (j : Nat) e, j < q → s[j]? = some e → prec e ⟨k, key, 0⟩ = true) s.length ⟨0, by simp [go_sem]⟩ ?_
  rintro m s' ⟨q, hq, rfl, h0, h1, h2, h3, h9, hno⟩
  have fin : (∀ e, s[q]? = some e → prec e ⟨k, key, 0⟩ = false) → fidx s ⟨k, key, 0⟩ = q := fun h => takeWhile_len _ s q hq hno h
  by_cases hlt : q < s.length
  · simp [go_sem, h0, h1, h2, h3, h9, hlt]
    refine AWp.drawAll rfl (by kernel_rfl) ?_
    simp [go_sem, h0, h1, h2, h3, h9, hlt]
    refine CalmThen.pure (ahead_ac s[q].kind k s[q].key key) (by simp [go_sem]) ?_
    have hpe : prec ⟨s[q].kind, s[q].key, 0⟩ ⟨k, key, 0⟩ = prec s[q] ⟨k, key, 0⟩ := rfl
    rw [hpe]
    cases hp : prec s[q] ⟨k, key, 0⟩ with
    | true =>
      simp [go_sem, h0, h1, h2, h3, h9, wrap_succ hlt hm]
      exact ⟨s.length - (q + 1), by omega, q + 1, by omega, rfl, rfl, below_step hlt hno hp⟩
    | false =>
      have hf : fidx s ⟨k, key, 0⟩ = q := fin fun e he => by rw [List.getElem?_eq_getElem hlt] at he; cases he; exact hp
      have hiff := fok_iff (s := s) (x := ⟨k, key, 0⟩) (by rw [hf]; exact hlt)
      simp only [hf] at hiff
      have t1 : (0 : Int) ≤ (q : Int) + 1 := by omega
      have t2 : ((q : Int) + 1).toNat = q + 1 := by omega
      have t3 : q + 1 ≤ s.length := hlt
      by_cases hk : s[q].kind = k
      · by_cases hkey : s[q].key = key
        · have hok := hiff.2 ⟨hk, hkey⟩
          simp [go_sem, h0, h1, h2, h3, h9, hlt, hq, hk, hkey, t1, t2, t3, wrap_succ hlt hm]
          refine ⟨⟨by omega, by omega⟩, ⟨by omega, by omega⟩, ⟨by omega, by omega⟩, ?_⟩
          refine PostR.retW [32] ?_ (.refl _)
          simp [go_sem, setOf, hf, hok, List.map_take, List.map_drop]
          exact List.take_of_length_le (by simp)
        · have hok : fok s ⟨k, key, 0⟩ = false := by
            cases hh : fok s ⟨k, key, 0⟩ with
            | false => rfl
            | true => exact (hkey (hiff.1 hh).2).elim
          simp [go_sem, h0, h1, h2, h3, h9, hlt, hq, hk, hkey]
          refine ⟨⟨by omega, by omega⟩, ⟨by omega, by omega⟩, ⟨by omega, by omega⟩, ?_⟩
          refine PostR.retW [32] ?_ (.refl _)
          simp [go_sem, setOf, hf, hok, List.map_take, List.map_drop]
          exact List.take_of_length_le (by simp)
      · have hok : fok s ⟨k, key, 0⟩ = false := by
          cases hh : fok s ⟨k, key, 0⟩ with
          | false => rfl
          | true => exact (hk (hiff.1 hh).1).elim
        simp [go_sem, h0, h1, h2, h3, h9, hlt, hq, hk]
        refine ⟨⟨by omega, by omega⟩, ⟨by omega, by omega⟩, ⟨by omega, by omega⟩, ?_⟩
        refine PostR.retW [32] ?_ (.refl _)
        simp [go_sem, setOf, hf, hok, List.map_take, List.map_drop]
        exact List.take_of_length_le (by simp)
  · have hf : fidx s ⟨k, key, 0⟩ = q := fin fun e he => by rw [List.getElem?_eq_none (by omega)] at he; cases he
    have hok : fok s ⟨k, key, 0⟩ = false := fok_out (by rw [hf]; exact hlt)
    simp [go_sem, h0, h1, h2, h3, h9, hlt]
    refine AWp.drawAll rfl (by kernel_rfl) ?_
    simp [go_sem, h0, h1, h2, h3, h9, hlt, hq]
    refine ⟨⟨by omega, by omega⟩, ⟨by omega, by omega⟩, ⟨by omega, by omega⟩, ?_⟩
    refine PostR.retW [32] ?_ (.refl _)
    simp [go_sem, setOf, hf, hok, List.map_take, List.map_drop]
    exact List.take_of_length_le (by simp)
set_option maxRecDepth 8000 in
set_option maxHeartbeats 4000000 in
theorem ssame_ac (a b : List EntD) : AC Try.prog 28 [ents a, ents b] (B (decide (a = b))) := by
  refine AC.of_body Try.func28 rfl rfl Try.ntmps28 (congrArg Array.toList Try.results28) (by simp) (pures2 (pure_ents _) (pure_ents _)) (pure_B _) fun w S' => AWp.bound 0 rfl fun hlen => AWp.of_vc [] ?_
  rw [ents_len] at hlen
  by_cases hab : a.length = b.length
  case neg =>
    have hab' : ¬ (a.length : Int) = b.length := by omega
    simp [go_sem, hab, hab']
    refine PostR.ret ?_
    simp [go_sem]
    intro h; exact hab (by rw [h])
  simp [go_sem, hab]
  refine AWp.loop_vc [] (fun m s => ∃ k : Nat, k ≤ a.length ∧ m = a.length - k ∧ s.σ 0 = ents a ∧ s.σ 1 = ents b ∧ s.σ 12 = ents a ∧ s.σ 13 = I a.length ∧ s.σ 14 = I k ∧ a.take k = b.take k) a.length ⟨0, by simp [go_sem, hab]⟩ ?_
  rintro m s ⟨k, hk, rfl, h0, h1, h12, h13, h14, hno⟩
  by_cases hlt : k < a.length
  · have hlt' : k < b.length := by omega
    simp [go_sem, h0, h1, h12, h13, h14, hlt, hlt']
    refine AWp.drawAll rfl (by kernel_rfl) ?_
    simp [go_sem, h0, h1, h12, h13, h14, hlt, hlt']
    by_cases hp : a[k] = b[k]
    · rw [if_neg (by simp [hp])]
      refine ⟨a.length - (k + 1), by omega, k + 1, by omega, rfl, by rw [wrap_succ hlt hlen]; rfl, ?_⟩
      rw [List.take_succ_eq_append_getElem hlt, List.take_succ_eq_append_getElem hlt', hno, hp]
    · rw [if_pos ?_]
      · refine PostR.ret ?_
        simp [go_sem]
        rintro rfl
        exact hp rfl
      · refine Decidable.byContradiction fun hn => hp ?_
        simp only [not_or, Decidable.not_not] at hn
        cases ha : a[k]; cases hb : b[k]; simp_all
  · simp [go_sem, h0, h1, h12, h13, h14, hlt]
    refine PostR.ret ?_
    simp [go_sem]
    rw [List.take_of_length_le (by omega), List.take_of_length_le (by omega)] at hno
    exact hno
set_option maxRecDepth 8000 in
set_option maxHeartbeats 4000000 in
theorem rsame_ac (a b : List EntD) : AC Try.prog 17 [ents a, ents b] (B (decide (a = b))) := by
  refine AC.of_body Try.func17 rfl rfl Try.ntmps17 (congrArg Array.toList Try.results17) (by simp) (pures2 (pure_ents _) (pure_ents _)) (pure_B _) fun w S' => AWp.bound 0 rfl fun hlen => AWp.of_vc [] ?_
  rw [ents_len] at hlen
  by_cases hab : a.length = b.length
  case neg =>
    have hab' : ¬ (a.length : Int) = b.length := by omega
    simp [go_sem, hab, hab']
    refine PostR.ret ?_
    simp [go_sem]
    intro h; exact hab (by rw [h])
  simp [go_sem, hab]
  refine AWp.loop_vc [] (fun m s => ∃ k : Nat, k ≤ a.length ∧ m = a.length - k ∧ s.σ 0 = ents a ∧ s.σ 1 = ents b ∧ s.σ 5 = I k ∧ a.take k = b.take k) a.length ⟨0, by simp [go_sem]⟩ ?_
  rintro m s ⟨k, hk, rfl, h0, h1, h5, hno⟩
  by_cases hlt : k < a.length
  · have hlt' : k < b.length := by omega
    have bad : a[k] ≠ b[k] → decide (a = b) = false := fun h => by
      simp only [decide_eq_false_iff_not]
      rintro rfl
      exact h rfl
    simp [go_sem, h0, h1, h5, hlt, hlt']
    refine AWp.drawAll rfl (by kernel_rfl) ?_
    by_cases e1 : a[k].kind = b[k].kind
    · by_cases e2 : a[k].key = b[k].key
      · by_cases e3 : a[k].id = b[k].id
        · have hp : a[k] = b[k] := by cases ha : a[k]; cases hb : b[k]; simp_all
          simp [go_sem, h0, h1, h5, hlt, hlt', e1, e2, e3, wrap_succ hlt hlen]
          refine ⟨a.length - (k + 1), by omega, k + 1, by omega, rfl, rfl, ?_⟩
          rw [List.take_succ_eq_append_getElem hlt, List.take_succ_eq_append_getElem hlt', hno, hp]
        · simp [go_sem, h0, h1, h5, hlt, hlt', e1, e2, e3]
          refine PostR.ret ?_
          rw [bad fun h => e3 (by rw [h])]
          simp [go_sem]
      · have e2' : (a[k].key == b[k].key) = false := by simp [e2]
        simp [go_sem, h0, h1, h5, hlt, hlt', e1, e2, e2']
        refine PostR.ret ?_
        rw [bad fun h => e2 (by rw [h])]
        simp [go_sem]
    · simp [go_sem, h0, h1, h5, hlt, hlt', e1]
      refine PostR.ret ?_
      rw [bad fun h => e1 (by rw [h])]
      simp [go_sem]
  · simp [go_sem, h0, h1, h5, hlt]
    refine PostR.ret ?_
    simp [go_sem]
    rw [List.take_of_length_le (by omega), List.take_of_length_le (by omega)] at hno
    exact hno
end Go.Proofs.Ytlhaopapeggefaa
