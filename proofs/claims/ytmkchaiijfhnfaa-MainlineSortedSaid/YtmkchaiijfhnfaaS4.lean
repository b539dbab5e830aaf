/- Contracts of chapter 10: both Check. No condition. -/
import Derived.Test.YtmkchaiijfhnfaaS3
namespace Go.Proofs.Ytmkchaiijfhnfaa
open Go Go.Abs
set_option linter.unusedSimpArgs false
theorem wrap_nat {k : Nat} (hm : k ≤ maxLen) : IntKind.i64.wrap (k : Int) = (k : Int) := wrap_i64 (by omega) (by unfold maxLen at hm; omega)

def adj : List EntD → Bool
  | a :: b :: l => prec a b && adj (b :: l)
  | _ => true
theorem adj_get : ∀ {l : List EntD}, adj l = true → ∀ (i : Nat) a b, l[i]? = some a → l[i + 1]? = some b → prec a b = true
  | [], _, i, a, b, h, _ => by simp at h
  | [x], _, i, a, b, h, k => by simp at k
  | x :: y :: l, hs, 0, a, b, h, k => by
    simp at h k; subst h; subst k
    simp only [adj, Bool.and_eq_true] at hs; exact hs.1
  | x :: y :: l, hs, i + 1, a, b, h, k => by
    simp only [adj, Bool.and_eq_true] at hs
    exact adj_get hs.2 i a b (by simpa using h) (by simpa using k)
theorem adj_of : ∀ {l : List EntD}, (∀ (i : Nat) a b, l[i]? = some a → l[i + 1]? = some b → prec a b = true) → adj l = true
  | [], _ => rfl
  | [x], _ => rfl
  | x :: y :: l, h => by
    simp only [adj, Bool.and_eq_true]
    exact ⟨h 0 x y rfl rfl, adj_of fun i a b h1 h2 => h (i + 1) a b (by simpa using h1) (by simpa using h2)⟩
def goodE (e : EntD) : Bool := isSt e.kind && decide (0 ≤ e.id)
def checkOf (s : List EntD) : Int := if adj s = false then 8 else if s.all goodE = false then 1 else if 2000 < s.length then 7 else 0
theorem adj_false {s : List EntD} {q : Nat} (h : q + 1 < s.length) (hp : prec s[q] s[q + 1] = false) : adj s = false := by
  cases ha : adj s with
  | false => rfl
  | true =>
    have := adj_get ha q _ _ (List.getElem?_eq_getElem (by omega)) (List.getElem?_eq_getElem h)
    rw [hp] at this; cases this
theorem all_false {α : Type} {p : α → Bool} {l : List α} {k : Nat} (h : k < l.length) (hp : p l[k] = false) : l.all p = false := by
  cases ha : l.all p with
  | false => rfl
  | true => rw [List.all_eq_true] at ha; have := ha _ (List.getElem_mem h); rw [hp] at this; cases this
theorem all_true {α : Type} {p : α → Bool} {l : List α} (h : ∀ (j : Nat) x, l[j]? = some x → p x = true) : l.all p = true := by
  rw [List.all_eq_true]
  intro x hx
  obtain ⟨j, hj⟩ := List.mem_iff_getElem?.1 hx
  exact h j x hj
theorem below_step {α : Type} {l : List α} {P : α → Prop} {k : Nat} (hk : k < l.length) (h : ∀ (j : Nat) x, j < k → l[j]? = some x → P x) (hp : P l[k]) : ∀ (j : Nat) x, j < k + 1 → l[j]? = some x → P x := by
  intro j x hj hx
  rcases Nat.lt_succ_iff_lt_or_eq.1 hj with hj | rfl
  · exact h j x hj hx
  · rw [List.getElem?_eq_getElem hk] at hx; cases hx; exact hp
theorem adj_step {l : List EntD} {q : Nat} (hk : q + 1 < l.length) (h : ∀ (i : Nat) a b, i < q → l[i]? = some a → l[i + 1]? = some b → prec a b = true) (hp : prec l[q] l[q + 1] = true) : ∀ (i : Nat) a b, i < q + 1 → l[i]? = some a → l[i + 1]? = some b → prec a b = true := by
  intro i a b hi ha hb
  rcases Nat.lt_succ_iff_lt_or_eq.1 hi with hi | rfl
  · exact h i a b hi ha hb
  · rw [List.getElem?_eq_getElem (by omega)] at ha; rw [List.getElem?_eq_getElem hk] at hb; cases ha; cases hb; exact hp

end Go.Proofs.Ytmkchaiijfhnfaa
