/- Contracts of chapter 19: Of and Closest. No condition. -/
import Derived.Test.YtmkchaiijfhnfaaM2
namespace Go.Proofs.Ytmkchaiijfhnfaa
open Go Go.Abs
set_option linter.unusedSimpArgs false
theorem few_len (l : List Evt) (id : Int) : (wayOf l id).length ≤ l.length := wayF_len l l.length [] id
set_option maxRecDepth 8000 in
set_option maxHeartbeats 4000000 in
theorem way_ac (l : List Evt) (id : Int) (hsz : l.length ≤ 100000) (hf : Few l) : AC Try.prog 11 [evs l, I id] (ints (wayOf l id)) := by
  refine AC.of_body Try.func11 rfl rfl Try.ntmps11 (congrArg Array.toList Try.results11) (by simp) (pures2 (pure_evs _) (pure_I _)) (pureR_ints _) fun w S' => AWp.of_vc [] ?_
  have hwl := few_len l id
  simp [go_sem]
  refine CallSem.inline 19995 Try.func21 rfl rfl Try.ntmps21 (congrArg Array.toList Try.results21) (by simp) (by simp [go_sem]) fun e1 => AWp.of_vc [3] ?_
  simp [go_sem]
  refine PostIn.ret (r := .fn (.func 33) [] [.rptr 19998 1 0 0, .eptr [evs l] 0]) (by simp [go_sem, resIn]) ?_
  simp [go_sem]
  refine AWp.ownNilBox 5 32 3 1 (by simp [go_sem]) (by decide) ?_
  refine range_way (l := l) (id := id) hf hsz (by simp [go_sem]) (by simp [go_sem]) rfl (by simp) (fun k s1 => ∃ v : Nat, s1.ver 5 = 1 ∧ s1.h 5 = .box [.ref 32 v] ∧ s1.ver 32 = v ∧ s1.h 32 = .arr 3 1 (((wayOf l id).take k).map I)) ?_ ⟨1, by simp [go_sem]⟩ ?_ ?_
  · rintro k s1 s2 ⟨v, h1, h2, h3, h4⟩ hσ hag
    have a5 := hag 5 (by decide)
    have a32 := hag 32 (by decide)
    exact ⟨v, a5.1.trans h1, a5.2.trans h2, a32.1.trans h3, a32.2.trans h4⟩
  · rintro k hk s1 l' r V e0 ⟨v, h1, h2, h3, h4⟩ hσ hV hR
    have hstep : (wayOf l id).take (k + 1) = (wayOf l id).take k ++ [(wayOf l id)[k]] := List.take_succ_eq_append_getElem hk
    have hl : ((wayOf l id).take k).length = k := by rw [List.length_take]; omega
    generalize (wayOf l id)[k] = y at hstep ⊢
    generalize (wayOf l id).take k = W at h4 hstep hl
    refine AWp.of_vc [6, 32] ?_
    simp [go_sem, hV, hR]
    intro e2
    refine AWp.of_vc [6, 32] ?_
    simp [go_sem, hV, hR, h1, h2, h3, h4, hstep]
    refine ⟨⟨by omega, by omega⟩, fun id a b => ?_, by rw [← List.map_take, hstep]; simp [I]⟩
    have n1 : ¬ id = 5 := by omega
    have n2 : ¬ id = 32 := by omega
    simp [go_sem, n1, n2, b]
  · rintro s1 ⟨v, h1, h2, h3, h4⟩ hσ
    rw [List.take_length] at h4
    simp [go_sem, hσ, h1, h2, h3, h4]
    refine PostR.retW [32] ?_ (.refl _)
    simp [go_sem, hσ, h1, h2, h3, h4]
def closeOf (l : List Evt) (main : List Int) (id : Int) : Int :=
  match (wayOf l id).find? (hasI main) with
  | some x => idxI (fun y => x == y) main
  | none => main.length
theorem idx_has {main : List Int} {x : Int} : (hasI main x = true ∧ 0 ≤ idxI (fun y => x == y) main) ∨ (hasI main x = false ∧ idxI (fun y => x == y) main = -1) := by
  rcases idxI_find (fun y => x == y) main with ⟨h1, h2⟩ | ⟨k, hk, h1, h2⟩
  · refine .inr ⟨?_, h2⟩
    rw [List.find?_eq_none] at h1
    cases hh : hasI main x
    · rfl
    · unfold hasI at hh
      exact (h1 x (by simpa using hh) (by simp)).elim
  · refine .inl ⟨?_, by omega⟩
    have := List.find?_some h1
    have hx : x = main[k] := by simpa using this
    unfold hasI
    simp [hx]
theorem range_none {l : List Int} {p : Int → Bool} {k : Nat} (hk : k = l.length) (h : ∀ (j : Nat) x, j < k → l[j]? = some x → p x = false) : l.find? p = none := find_no fun i x hi hx => h i x (by omega) hx
set_option maxRecDepth 8000 in
set_option maxHeartbeats 4000000 in
theorem close_ac (l : List Evt) (main : List Int) (id : Int) (hsz : l.length ≤ 100000) (hf : Few l) : AC Try.prog 13 [evs l, ints main, I id] (I (closeOf l main id)) := by
  refine AC.of_body Try.func13 rfl rfl Try.ntmps13 (congrArg Array.toList Try.results13) (by simp) (pures3 (pure_evs _) (pure_ints _) (pure_I _)) (pure_I _) fun w S' => AWp.of_vc [] ?_
  simp [go_sem]
  refine CallSem.inline 19995 Try.func21 rfl rfl Try.ntmps21 (congrArg Array.toList Try.results21) (by simp) (by simp [go_sem]) fun e1 => AWp.of_vc [3] ?_
  simp [go_sem]
  refine PostIn.ret (r := .fn (.func 33) [] [.rptr 19998 1 0 0, .eptr [evs l] 0]) (by simp [go_sem, resIn]) ?_
  simp [go_sem]
  refine range_way (l := l) (id := id) hf hsz (by simp [go_sem]) (by simp [go_sem]) rfl (by simp) (fun k s1 => s1.ver 6 = 1 ∧ s1.h 6 = .box [I 0] ∧ ∀ (j : Nat) x, j < k → (wayOf l id)[j]? = some x → hasI main x = false) ?_ ⟨by simp [go_sem], by simp [go_sem], fun j x hj => by omega⟩ ?_ ?_
  · rintro k s1 s2 ⟨h1, h2, h3⟩ hσ hag
    have a6 := hag 6 (by decide)
    exact ⟨a6.1.trans h1, a6.2.trans h2, h3⟩
  · rintro k hk s1 l' r V e0 ⟨h1, h2, hno⟩ hσ hV hR
    have hfs := fun hp => find_some (p := hasI main) hk hno hp
    have hbs := fun hp => below_step (P := fun x => hasI main x = false) hk hno hp
    generalize (wayOf l id)[k] = y at hfs hbs ⊢
    refine AWp.of_vc [] ?_
    simp [go_sem, hV, hR]
    intro e2
    refine AWp.of_vc [] ?_
    simp [go_sem, hV, hR, h1, h2]
    refine CallSem.pure (indexI_ac main y) (by simp [go_sem]) ?_
    rcases idx_has (main := main) (x := y) with ⟨hh, hi⟩ | ⟨hh, hi⟩
    · have hE : closeOf l main id = idxI (fun z => y == z) main := by unfold closeOf; rw [hfs hh]
      generalize idxI (fun z => y == z) main = ix at hi hE ⊢
      have hi' : ¬ ix < 0 := by omega
      simp [go_sem, hV, hR, h1, h2, hi, hi']
      refine PostR.ret ?_
      simp [go_sem, hV, hR, h1, h2, hE]
    · simp [go_sem, hV, hR, h1, h2, hi]
      exact ⟨fun id a b => by simp [go_sem, b], hbs hh⟩
  · rintro s1 ⟨h1, h2, hno⟩ hσ
    have hE : closeOf l main id = main.length := by unfold closeOf; rw [range_none rfl hno]
    simp [go_sem, hσ, h1, h2]
    refine PostR.ret ?_
    simp [go_sem, hσ, h1, h2, hE]
def placeL (main : List Int) (x : Int) : Int := if hasI main x = true then idxI (fun y => x == y) main else main.length
end Go.Proofs.Ytmkchaiijfhnfaa
