/- Contracts: lists of numbers in the reference, part 2. No condition. -/
import Derived.Test.YtckoolpjphhfdaaU1
namespace Go.Proofs.Ytckoolpjphhfdaa
open Go Go.Abs
set_option linter.unusedSimpArgs false

def putL (l : List Int) (n : Int) : List Int := if l.contains n then l else l.takeWhile (· < n) ++ n :: l.dropWhile (· < n)

set_option maxHeartbeats 400000 in
theorem same_ac (a b : List Int) : AC Try.prog 19 [ints a, ints b] (B (a == b)) := by
  refine AC.of_body Try.func19 rfl rfl Try.ntmps19 (congrArg Array.toList Try.results19) (by simp) (pures2 (pure_ints _) (pure_ints _)) (pure_B _) fun w S => AWp.bound 0 rfl fun hlen => AWp.of_vc [] ?_
  rw [ints_len] at hlen
  by_cases hab : a.length = b.length
  case neg =>
    have hab' : ¬ (a.length : Int) = b.length := by omega
    simp [go_sem, hab, hab']
    refine PostR.ret ?_
    simp [go_sem]
    intro h; exact hab (by rw [h])
  simp [go_sem, hab]
  refine AWp.loop_vc [] (fun m s => ∃ k : Nat, k ≤ a.length ∧ m = a.length - k ∧ s.σ 0 = ints a ∧ s.σ 1 = ints b ∧ s.σ 5 = I k ∧ a.take k = b.take k) a.length ⟨0, by simp [go_sem]⟩ ?_
  rintro m s ⟨k, hk, rfl, h0, h1, h5, hno⟩
  by_cases hlt : k < a.length
  · have hlt' : k < b.length := by omega
    simp [go_sem, h0, h1, h5, hlt, hlt']
    refine AWp.drawAll rfl (by kernel_rfl) ?_
    simp [go_sem, h0, h1, h5, hlt, hlt']
    by_cases hp : a[k] = b[k]
    · rw [if_pos hp]
      refine ⟨a.length - (k + 1), by omega, k + 1, by omega, rfl, by rw [wrap_succ hlt hlen]; rfl, ?_⟩
      rw [List.take_succ_eq_append_getElem hlt, List.take_succ_eq_append_getElem hlt', hno, hp]
    · rw [if_neg hp]
      refine PostR.ret ?_
      simp [go_sem]
      rintro rfl
      exact hp rfl
  · simp [go_sem, h0, h1, h5, hlt]
    refine PostR.ret ?_
    simp [go_sem]
    rw [List.take_of_length_le (by omega), List.take_of_length_le (by omega)] at hno
    exact hno

theorem takeWhile_take (l : List Int) (n : Int) : ∀ k, k ≤ l.length → (∀ j, j < k → ∀ x, l[j]? = some x → x < n) → (∀ x, l[k]? = some x → ¬ x < n) → l.takeWhile (· < n) = l.take k ∧ l.dropWhile (· < n) = l.drop k := by
  induction l with
  | nil => intro k hk _ _; simp at hk; subst hk; simp
  | cons x l ih =>
    intro k hk h1 h2
    cases k with
    | zero =>
      have := h2 x rfl
      simp [List.takeWhile_cons, List.dropWhile_cons, this]
    | succ k =>
      have hx := h1 0 (by omega) x rfl
      obtain ⟨e1, e2⟩ := ih k (by simpa using hk) (fun j hj y hy => h1 (j + 1) (by omega) y (by simpa using hy)) (fun y hy => h2 y (by simpa using hy))
      simp [List.takeWhile_cons, List.dropWhile_cons, hx, e1, e2]

set_option maxRecDepth 4000 in
set_option maxHeartbeats 1000000 in
theorem put_ac (l : List Int) (n : Int) (hsz : l.length ≤ 1000000000) : AC Try.prog 37 [ints l, I n] (ints (putL l n)) := by
  refine AC.of_body Try.func37 rfl rfl Try.ntmps37 (congrArg Array.toList Try.results37) (by simp) (pures2 (pure_ints _) (pure_I _)) (pureR_ints _) fun w S => AWp.of_vc [25] ?_
  simp [go_sem]
  refine CallSem.pure (has_ac l n) (by simp [go_sem]) ?_
  by_cases hn : l.contains n = true
  · have hn' : n ∈ l := by simpa using hn
    simp [go_sem, hn']
    refine PostR.ret ?_
    simp [go_sem, putL, hn']
  have hn' : ¬ n ∈ l := by simpa using hn
  simp [go_sem, hn']
  refine AWp.loop_vc [] (fun m s => ∃ k : Nat, k ≤ l.length ∧ m = l.length - k ∧ s.σ 0 = ints l ∧ s.σ 1 = I n ∧ s.σ 5 = I k ∧ ∀ j, j < k → ∀ x, l[j]? = some x → x < n) l.length ⟨0, by simp [go_sem]⟩ ?_
  rintro m s ⟨k, hk, rfl, h0, h1, h5, hno⟩
  have key : ¬ (∃ x, l[k]? = some x ∧ x < n) → ints (putL l n) = ints (l.take k ++ n :: l.drop k) := by
    intro hx
    obtain ⟨e1, e2⟩ := takeWhile_take l n k hk hno fun x h1 h2 => hx ⟨x, h1, h2⟩
    simp [putL, hn', e1, e2]
  by_cases hlt : k < l.length
  · simp [go_sem, h0, h1, h5, hlt]
    by_cases hp : l[k] < n
    · simp [go_sem, h0, h1, h5, hlt, hp]
      refine ⟨l.length - (k + 1), by omega, k + 1, by omega, rfl, by rw [wrap_succ hlt (show l.length ≤ maxLen by unfold maxLen; omega)]; rfl, ?_⟩
      intro j hj x hx
      rcases Nat.lt_succ_iff_lt_or_eq.1 hj with hj | rfl
      · exact hno j hj x hx
      · rw [List.getElem?_eq_getElem hlt] at hx; cases hx; exact hp
    · simp [go_sem, h0, h1, h5, hlt, hp, hk]
      refine ⟨⟨by omega, by omega⟩, ⟨by omega, by omega⟩, ⟨by omega, by omega⟩, ?_⟩
      refine PostR.retW [25] ?_ (.refl _)
      have e : List.map I (putL l n) = List.map I (l.take k) ++ I n :: List.map I (l.drop k) := by
        have := key (by rintro ⟨x, hx, hlx⟩; rw [List.getElem?_eq_getElem hlt] at hx; cases hx; exact hp hlx)
        simpa [ints] using this
      rw [e]
      simp [go_sem]
      exact List.take_of_length_le (by simp)
  · simp [go_sem, h0, h1, h5, hlt, hk]
    refine ⟨⟨by omega, by omega⟩, ⟨by omega, by omega⟩, ⟨by omega, by omega⟩, ?_⟩
    refine PostR.retW [25] ?_ (.refl _)
    have e : List.map I (putL l n) = List.map I (l.take k) ++ I n :: List.map I (l.drop k) := by
      have := key (by rintro ⟨x, hx, hlx⟩; rw [List.getElem?_eq_none (by omega)] at hx; cases hx)
      simpa [ints] using this
    rw [e]
    simp [go_sem]
    exact List.take_of_length_le (by simp)

theorem putL_len (l : List Int) (n : Int) : (putL l n).length ≤ l.length + 1 := by
  unfold putL
  split
  · omega
  · have h := congrArg List.length (List.takeWhile_append_dropWhile (p := fun x : Int => decide (x < n)) (l := l))
    simp only [List.length_append] at h
    simp only [List.length_append, List.length_cons]
    omega
def sortedL (l : List Int) : List Int := l.foldl putL []
theorem foldl_putL_len (l : List Int) : ∀ a : List Int, (l.foldl putL a).length ≤ a.length + l.length := by
  induction l with
  | nil => intro a; simp
  | cons x l ih =>
    intro a
    have h1 := ih (putL a x)
    have h2 := putL_len a x
    simp only [List.foldl_cons, List.length_cons]
    omega

end Go.Proofs.Ytckoolpjphhfdaa
