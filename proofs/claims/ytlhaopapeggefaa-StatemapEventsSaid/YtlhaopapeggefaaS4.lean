/- Contracts of chapter 10: both Check. No condition. -/
import Derived.Test.YtlhaopapeggefaaS3
namespace Go.Proofs.Ytlhaopapeggefaa
open Go Go.Abs
set_option linter.unusedSimpArgs false
theorem wrap_nat {k : Nat} (hm : k ≤ maxLen) : IntKind.i64.wrap (k : Int) = (k : Int) := wrap_i64 (by omega) (by unfold maxLen at hm; omega)

def adj : List EntD → Bool
  | a :: b :: l => prec a b && adj (b :: l)
  | _ => true
theorem adj_get : ∀ {l : List EntD}, adj l = true → ∀ (i : Nat) a b, l[i]? = some a → l[i + 1]? = some b → prec a b = true
  | [], _, i, a, b, h, _ => by simp at h
  | [x], _, i, a, b, h, k => by simp at k
  | x :: y :: l, hs, 0, a, b, h, k => by
    simp at h k; subst h; subst k
    simp only [adj, Bool.and_eq_true] at hs; exact hs.1
  | x :: y :: l, hs, i + 1, a, b, h, k => by
    simp only [adj, Bool.and_eq_true] at hs
    exact adj_get hs.2 i a b (by simpa using h) (by simpa using k)
theorem adj_of : ∀ {l : List EntD}, (∀ (i : Nat) a b, l[i]? = some a → l[i + 1]? = some b → prec a b = true) → adj l = true
  | [], _ => rfl
  | [x], _ => rfl
  | x :: y :: l, h => by
    simp only [adj, Bool.and_eq_true]
    exact ⟨h 0 x y rfl rfl, adj_of fun i a b h1 h2 => h (i + 1) a b (by simpa using h1) (by simpa using h2)⟩
def goodE (e : EntD) : Bool := isSt e.kind && decide (0 ≤ e.id)
def checkOf (s : List EntD) : Int := if adj s = false then 8 else if s.all goodE = false then 1 else if 2000 < s.length then 7 else 0
theorem adj_false {s : List EntD} {q : Nat} (h : q + 1 < s.length) (hp : prec s[q] s[q + 1] = false) : adj s = false := by
  cases ha : adj s with
  | false => rfl
  | true =>
    have := adj_get ha q _ _ (List.getElem?_eq_getElem (by omega)) (List.getElem?_eq_getElem h)
    rw [hp] at this; cases this
theorem all_false {α : Type} {p : α → Bool} {l : List α} {k : Nat} (h : k < l.length) (hp : p l[k] = false) : l.all p = false := by
  cases ha : l.all p with
  | false => rfl
  | true => rw [List.all_eq_true] at ha; have := ha _ (List.getElem_mem h); rw [hp] at this; cases this
theorem all_true {α : Type} {p : α → Bool} {l : List α} (h : ∀ (j : Nat) x, l[j]? = some x → p x = true) : l.all p = true := by
  rw [List.all_eq_true]
  intro x hx
  obtain ⟨j, hj⟩ := List.mem_iff_getElem?.1 hx
  exact h j x hj
theorem below_step {α : Type} {l : List α} {P : α → Prop} {k : Nat} (hk : k < l.length) (h : ∀ (j : Nat) x, j < k → l[j]? = some x → P x) (hp : P l[k]) : ∀ (j : Nat) x, j < k + 1 → l[j]? = some x → P x := by
  intro j x hj hx
  rcases Nat.lt_succ_iff_lt_or_eq.1 hj with hj | rfl
  · exact h j x hj hx
  · rw [List.getElem?_eq_getElem hk] at hx; cases hx; exact hp
theorem adj_step {l : List EntD} {q : Nat} (hk : q + 1 < l.length) (h : ∀ (i : Nat) a b, i < q → l[i]? = some a → l[i + 1]? = some b → prec a b = true) (hp : prec l[q] l[q + 1] = true) : ∀ (i : Nat) a b, i < q + 1 → l[i]? = some a → l[i + 1]? = some b → prec a b = true := by
  intro i a b hi ha hb
  rcases Nat.lt_succ_iff_lt_or_eq.1 hi with hi | rfl
  · exact h i a b hi ha hb
  · rw [List.getElem?_eq_getElem (by omega)] at ha; rw [List.getElem?_eq_getElem hk] at hb; cases ha; cases hb; exact hp

set_option maxRecDepth 8000 in
set_option maxHeartbeats 4000000 in
theorem rcheck_ac (s : List EntD) : AC Try.prog 12 [ents s] (I (checkOf s)) := by
  refine AC.of_body Try.func12 rfl rfl Try.ntmps12 (congrArg Array.toList Try.results12) (by simp) (pures1 (pure_ents _)) (pure_I _) fun w S' => AWp.bound 0 rfl fun hlen => AWp.of_vc [] ?_
  rw [ents_len] at hlen
  simp [go_sem]
  refine AWp.loop_vc [] (fun m s' => ∃ q : Nat, q ≤ s.length - 1 ∧ m = s.length - q ∧ s'.σ 0 = ents s ∧ s'.σ 3 = I ((q : Int) + 1) ∧ ∀ (i : Nat) a b, i < q → s[i]? = some a → s[i + 1]? = some b → prec a b = true) s.length ⟨0, by simp [go_sem]⟩ ?_
  rintro m s' ⟨q, hq, rfl, h0, h3, hno⟩
  by_cases hlt : q + 1 < s.length
  · have hlt' : (q : Int) + 1 < s.length := by omega
    have hq' : q < s.length := by omega
    have hp1 : (0 : Int) ≤ (q : Int) + 1 := by omega
    have ht1 : ((q : Int) + 1).toNat = q + 1 := by omega
    simp [go_sem, h0, h3, hlt']
    refine AWp.drawAll rfl (by kernel_rfl) ?_
    simp [go_sem, h0, h3, hlt', hlt, hq', hp1, ht1, wrap_nat (show q ≤ maxLen by omega)]
    refine CalmThen.pure (ahead_ac s[q].kind s[q + 1].kind s[q].key s[q + 1].key) (by simp [go_sem]) ?_
    have hpe : prec ⟨s[q].kind, s[q].key, 0⟩ ⟨s[q + 1].kind, s[q + 1].key, 0⟩ = prec s[q] s[q + 1] := rfl
    rw [hpe]
    cases hp : prec s[q] s[q + 1] with
    | false =>
      simp [go_sem]
      refine PostR.ret ?_
      simp [go_sem, checkOf, adj_false hlt hp]
    | true =>
      have hw2 : IntKind.i64.wrap ((q : Int) + 1 + 1) = (q : Int) + 1 + 1 := by
        have := wrap_succ hlt hlen; simpa using this
      simp [go_sem, h0, h3, hw2]
      exact ⟨s.length - (q + 1), by omega, q + 1, by omega, rfl, by omega, adj_step hlt hno hp⟩
  · have hlt' : ¬ (q : Int) + 1 < s.length := by omega
    have ha : adj s = true := adj_of fun i a b h1 h2 => hno i a b (by have := (List.getElem?_eq_some_iff.1 h2).1; omega) h1 h2
    simp [go_sem, h0, h3, hlt']
    refine AWp.loop_vc [] (fun m s' => ∃ k : Nat, k ≤ s.length ∧ m = s.length - k ∧ s'.σ 0 = ents s ∧ s'.σ 4 = I k ∧ ∀ (j : Nat) e, j < k → s[j]? = some e → goodE e = true) s.length ⟨0, by simp [go_sem, h0]⟩ ?_
    rintro m s2 ⟨k, hk, rfl, g0, g4, hyes⟩
    by_cases hkl : k < s.length
    · simp [go_sem, g0, g4, hkl]
      refine CallSem.pure (kind_ac s[k].kind) (by simp [go_sem]) ?_
      have hw := wrap_succ hkl hlen
      cases hs : isSt s[k].kind with
      | false =>
        simp [go_sem, g0, g4, hkl]
        refine PostR.ret ?_
        simp [go_sem, checkOf, ha, all_false hkl (show goodE s[k] = false by simp [goodE, hs])]
      | true =>
        by_cases hi : s[k].id < 0
        · simp [go_sem, g0, g4, hkl, hi]
          refine PostR.ret ?_
          simp [go_sem, checkOf, ha, all_false hkl (show goodE s[k] = false by simp [goodE, hs, hi])]
        · simp [go_sem, g0, g4, hkl, hi]
          refine ⟨s.length - (k + 1), by omega, k + 1, by omega, rfl, by rw [hw]; rfl, below_step hkl hyes ?_⟩
          simp [goodE, hs]; omega
    · have hg : s.all goodE = true := all_true fun j x hx => hyes j x (by have := (List.getElem?_eq_some_iff.1 hx).1; omega) hx
      by_cases hbig : (2000 : Int) < s.length
      · have hb' : 2000 < s.length := by omega
        simp [go_sem, g0, g4, hkl, hbig]
        refine PostR.ret ?_
        simp only [checkOf, ha, hg]
        simp [go_sem, hb']
      · have hb' : ¬ 2000 < s.length := by omega
        simp [go_sem, g0, g4, hkl, hbig]
        refine PostR.ret ?_
        simp only [checkOf, ha, hg]
        simp [go_sem, hb']
set_option maxRecDepth 8000 in
set_option maxHeartbeats 4000000 in
theorem check_ac (s : List EntD) : AC Try.prog 11 [ents s] (I (checkOf s)) := by
  refine AC.of_body Try.func11 rfl rfl Try.ntmps11 (congrArg Array.toList Try.results11) (by simp) (pures1 (pure_ents _)) (pure_I _) fun w S' => AWp.bound 0 rfl fun hlen => AWp.of_vc [] ?_
  rw [ents_len] at hlen
  simp [go_sem]
  refine AWp.loop_vc [] (fun m s' => ∃ q : Nat, q ≤ s.length - 1 ∧ m = s.length - q ∧ s'.σ 0 = ents s ∧ s'.σ 2 = .rptr 2 1 0 0 ∧ s'.ver 2 = 1 ∧ s'.h 2 = .box [I 0] ∧ s'.σ 3 = I ((q : Int) + 1) ∧ ∀ (i : Nat) a b, i < q → s[i]? = some a → s[i + 1]? = some b → prec a b = true) s.length ⟨0, by simp [go_sem]⟩ ?_
  rintro m s' ⟨q, hq, rfl, h0, h2, hv2, hh2, h3, hno⟩
  by_cases hlt : q + 1 < s.length
  · have hlt' : (q : Int) + 1 < s.length := by omega
    have hq' : q < s.length := by omega
    have hp1 : (0 : Int) ≤ (q : Int) + 1 := by omega
    have ht1 : ((q : Int) + 1).toNat = q + 1 := by omega
    simp [go_sem, h0, h3, hlt']
    refine AWp.drawAll rfl (by kernel_rfl) ?_
    simp [go_sem, h0, h3, hlt', hlt, hq', hp1, ht1, wrap_nat (show q ≤ maxLen by omega)]
    refine CalmThen.pure (prec_ac s[q] s[q + 1]) (by simp [go_sem]) ?_
    cases hp : prec s[q] s[q + 1] with
    | false =>
      simp [go_sem, h2, hv2, hh2]
      refine PostR.ret ?_
      simp [go_sem, h2, hv2, hh2, checkOf, adj_false hlt hp]
    | true =>
      have hw2 : IntKind.i64.wrap ((q : Int) + 1 + 1) = (q : Int) + 1 + 1 := by
        have := wrap_succ hlt hlen; simpa using this
      simp [go_sem, h0, h2, hv2, hh2, h3, hw2]
      exact ⟨s.length - (q + 1), by omega, q + 1, by omega, rfl, by omega, adj_step hlt hno hp⟩
  · have hlt' : ¬ (q : Int) + 1 < s.length := by omega
    have ha : adj s = true := adj_of fun i a b h1 h2 => hno i a b (by have := (List.getElem?_eq_some_iff.1 h2).1; omega) h1 h2
    simp [go_sem, h0, h3, hlt']
    refine CallSem.pure (each_ac s) (by simp [go_sem]) ?_
    simp [go_sem]
    refine range_each (s := s) 19999 (by decide) (by simp [go_sem]) rfl (by simp) hlen (fun k s1 => s1.ver 2 = 1 ∧ s1.h 2 = .box [I 0] ∧ ∀ (j : Nat) e, j < k → s[j]? = some e → goodE e = true) ?_ ⟨by simp [go_sem, hv2], by simp [go_sem, hh2], fun j e h => by omega⟩ ?_ ?_
    · rintro k s1 s2 ⟨g1, g2, g3⟩ hσ hag
      have a2 := hag 2 (by decide) (by decide)
      exact ⟨a2.1.trans g1, a2.2.trans g2, g3⟩
    · rintro k hk s1 l r V e0 ⟨g1, g2, g3⟩ hσ hV hR
      refine AWp.of_vc [] ?_
      simp [go_sem, hV, hR]
      intro e1
      refine AWp.of_vc [] ?_
      simp [go_sem, hV, hR]
      refine CallSem.pure (isState_ac s[k].kind) (by simp [go_sem]) ?_
      cases hs : isSt s[k].kind with
      | false =>
        simp [go_sem, hV, hR, g1, g2, h2]
        refine PostR.ret ?_
        simp [go_sem, g1, g2, h2, checkOf, ha, all_false hk (show goodE s[k] = false by simp [goodE, hs])]
      | true =>
        by_cases hi : s[k].id < 0
        · simp [go_sem, hV, hR, g1, g2, h2, hi]
          refine PostR.ret ?_
          simp [go_sem, g1, g2, h2, checkOf, ha, all_false hk (show goodE s[k] = false by simp [goodE, hs, hi])]
        · simp [go_sem, hV, hR, g1, g2, h2, hi]
          refine below_step hk g3 ?_
          simp [goodE, hs]; omega
    · rintro s1 ⟨g1, g2, g3⟩ hσ
      have hg : s.all goodE = true := all_true fun j x hx => g3 j x (by have := (List.getElem?_eq_some_iff.1 hx).1; omega) hx
      by_cases hbig : (2000 : Int) < s.length
      · have hb' : 2000 < s.length := by omega
        simp [go_sem, hσ, g1, g2, h0, h2, hbig]
        refine PostR.ret ?_
        simp only [checkOf, ha, hg]
        simp [go_sem, hσ, g1, g2, h2, hb']
      · have hb' : ¬ 2000 < s.length := by omega
        simp [go_sem, hσ, g1, g2, h0, h2, hbig]
        refine PostR.ret ?_
        simp only [checkOf, ha, hg]
        simp [go_sem, hσ, g1, g2, h2, hb']
end Go.Proofs.Ytlhaopapeggefaa
