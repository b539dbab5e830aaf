/- Contracts of chapter 19: the reference's Order. No condition. -/
import Derived.Test.YtmkchaiijfhnfaaM6
import Derived.Test.YtmkchaiijfhnfaaM8
namespace Go.Proofs.Ytmkchaiijfhnfaa
open Go Go.Abs Go.Shelf Go.RowKit Go.Lib Go.Sort Go.Proofs
set_option linter.unusedSimpArgs false
set_option linter.unusedVariables false
theorem itemOf_spec {l : List Evt} {main : List Int} {id : Int} {x : Item} (h : itemOf l main id = some x) : ∃ e, getE l id = some e ∧ x.id = id ∧ x.closest = closeOf l main id ∧ x.time = e.time := by
  unfold itemOf at h
  obtain ⟨e, he, rfl⟩ := Option.map_eq_some_iff.1 h
  exact ⟨e, he, rfl, rfl, rfl⟩
set_option maxRecDepth 8000 in
set_option maxHeartbeats 4000000 in
theorem ahead_ac (l : List Evt) (main : List Int) (x y : Item) (hx : itemOf l main x.id = some x) (hy : itemOf l main y.id = some y) (hsz : l.length ≤ 100000) (hf : Few l) : AC Try.prog 30 [evs l, ints main, I x.id, I y.id] (B (itLt x y)) := by
  refine AC.of_body Try.func30 rfl rfl Try.ntmps30 (congrArg Array.toList Try.results30) (by simp) (pures4 (pure_evs _) (pure_ints _) (pure_I _) (pure_I _)) (pure_B _) fun w S' => AWp.of_vc [] ?_
  obtain ⟨e, he, _, hxc, hxt⟩ := itemOf_spec hx
  obtain ⟨f, hg, _, hyc, hyt⟩ := itemOf_spec hy
  simp [go_sem]
  refine CallSem.pure (rclose_ac l main x.id hsz hf) (by simp [go_sem]) ?_
  rw [← hxc]
  simp [go_sem]
  refine CallSem.pure (rclose_ac l main y.id hsz hf) (by simp [go_sem]) ?_
  rw [← hyc]
  unfold itLt
  by_cases h1 : x.closest = y.closest
  · simp [go_sem, h1]
    refine CallSem.pure (rgetE_ac l x.id) (by simp [go_sem]) ?_
    rw [he]
    simp [go_sem]
    refine CallSem.pure (rgetE_ac l y.id) (by simp [go_sem]) ?_
    rw [hg]
    simp [go_sem, ← hxt, ← hyt]
    by_cases h2 : x.time = y.time
    · simp [go_sem, h2]
      refine PostR.ret ?_
      simp [go_sem]
    · simp [go_sem, h2]
      refine PostR.ret ?_
      simp [go_sem]
  · simp [go_sem, h1]
    refine PostR.ret ?_
    simp [go_sem]

def idsI (X : List Item) : List Int := X.map (·.id)
theorem idsI_len (X : List Item) : (idsI X).length = X.length := by simp [idsI]
theorem idsI_get {X : List Item} {k : Nat} (h : k < X.length) : (idsI X)[k]'(by rw [idsI_len]; exact h) = X[k].id := by simp [idsI]
theorem put_rows (X : List Item) (x : Item) (k : Nat) : (X.take k).map (fun y => I y.id) ++ AV.v (Value.int IntKind.i64 x.id) :: ((X.drop k).map fun y => I y.id).take (X.length - k) = (X.take k ++ x :: X.drop k).map fun y => I y.id := by
  have : ((X.drop k).map fun y => I y.id).take (X.length - k) = (X.drop k).map fun y => I y.id := List.take_of_length_le (by simp)
  rw [this, List.map_append, List.map_cons]; rfl
theorem idsI_put {X : List Item} {x : Item} {k : Nat} {n : Int} (hx : x.id = n) : List.take k (List.map I (idsI X)) ++ AV.v (Value.int IntKind.i64 n) :: List.take (X.length - k) (List.drop k (List.map I (idsI X))) = List.map I (idsI (X.take k ++ x :: X.drop k)) := by
  have h := put_rows X x k
  have e : ∀ Y : List Item, List.map I (idsI Y) = Y.map fun y => I y.id := fun Y => by unfold idsI; rw [List.map_map]; rfl
  rw [e, e, ← hx, ← List.map_take, ← List.map_drop]
  exact h
/-- An item is put behind those that come before it. -/
def insI (X : List Item) (x : Item) : List Item := X.takeWhile (fun y => itLt y x) ++ x :: X.dropWhile (fun y => itLt y x)
def stepI (X : List Item) (x : Item) : List Item := if (idsI X).contains x.id = true then X else insI X x
def refI (items : List Item) : List Item := items.foldl stepI []
theorem insI_at {X : List Item} {x : Item} {k : Nat} (hk : k ≤ X.length) (hlt : ∀ j y, j < k → X[j]? = some y → itLt y x = true) (hend : ∀ y, X[k]? = some y → itLt y x = false) : insI X x = X.take k ++ x :: X.drop k := by
  unfold insI
  induction X generalizing k with
  | nil => simp at hk; subst hk; rfl
  | cons z X ih =>
    cases k with
    | zero =>
      have := hend z rfl
      simp [this]
    | succ k =>
      have hz := hlt 0 z (by omega) rfl
      rw [List.takeWhile_cons_of_pos (p := fun y => itLt y x) hz, List.dropWhile_cons_of_pos (p := fun y => itLt y x) hz]
      have := ih (k := k) (by simpa using hk) (fun j y hj hy => hlt (j + 1) y (by omega) (by simpa using hy)) (fun y hy => hend y (by simpa using hy))
      simp only [List.cons_append, List.take_succ_cons, List.drop_succ_cons, this]
theorem stepI_len (X : List Item) (x : Item) : (stepI X x).length ≤ X.length + 1 := by
  unfold stepI
  split
  · omega
  · unfold insI
    have h := congrArg List.length (List.takeWhile_append_dropWhile (p := fun y => itLt y x) (l := X))
    simp only [List.length_append, List.length_cons] at h ⊢
    omega
theorem refI_len : ∀ (items X : List Item), (items.foldl stepI X).length ≤ X.length + items.length
  | [], X => by simp
  | x :: items, X => by
    have h1 := refI_len items (stepI X x)
    have h2 := stepI_len X x
    simp only [List.foldl_cons, List.length_cons]; omega
theorem mem_stepI {X : List Item} {x z : Item} (h : z ∈ stepI X x) : z ∈ X ∨ z = x := by
  unfold stepI at h
  split at h
  · exact .inl h
  · unfold insI at h
    rcases List.mem_append.1 h with h | h
    · exact .inl ((List.takeWhile_sublist _).subset h)
    · rcases List.mem_cons.1 h with h | h
      · exact .inr h
      · exact .inl ((List.dropWhile_sublist _).subset h)
theorem mem_refI : ∀ (items X : List Item) {z : Item}, z ∈ items.foldl stepI X → z ∈ X ∨ z ∈ items
  | [], X, z, h => .inl h
  | x :: items, X, z, h => by
    rcases mem_refI items (stepI X x) h with h | h
    · rcases mem_stepI h with h | h
      · exact .inl h
      · exact .inr (h ▸ List.mem_cons_self ..)
    · exact .inr (List.mem_cons_of_mem _ h)
theorem items_known {l : List Evt} {main ids : List Int} {x : Item} (h : x ∈ itemsOf l main ids) : itemOf l main x.id = some x := by
  obtain ⟨id, _, hx⟩ := List.mem_filterMap.1 h
  obtain ⟨e, _, h2, _⟩ := itemOf_spec hx
  rw [h2]; exact hx
def rorder (l : List Evt) (main ids : List Int) : List Int := idsI (refI (itemsOf l main ids))
set_option maxRecDepth 8000 in
set_option maxHeartbeats 4000000 in
theorem rorder_ac (l : List Evt) (main ids : List Int) (hsz : l.length ≤ 100000) (hf : Few l) (hid : ids.length ≤ 100000) : AC Try.prog 16 [evs l, ints main, ints ids] (ints (rorder l main ids)) := by
  refine AC.of_body Try.func16 rfl rfl Try.ntmps16 (congrArg Array.toList Try.results16) (by simp) (pures3 (pure_evs _) (pure_ints _) (pure_ints _)) (pureR_ints _) fun w S' => AWp.of_vc [] ?_
  have hm : ids.length ≤ maxLen := by unfold maxLen; omega
  have hinj : ∀ d d' : Nat, d ≠ d' → d ≠ d' := fun _ _ h => h
  unfold rorder
  simp [go_sem]
  refine AWp.loop_vcF [58] [58, 72] (fun m s => ∃ q : Nat, q ≤ ids.length ∧ m = ids.length - q ∧ s.σ 0 = evs l ∧ s.σ 1 = ints main ∧ s.σ 2 = ints ids ∧ s.σ 8 = I q ∧ s.σ 7 = ints (idsI (refI (itemsOf l main (ids.take q))))) ids.length ⟨0, by simp [go_sem, itemsOf, refI, idsI]⟩ ?_
  rintro m s ⟨q, hq, rfl, h0, h1, h2, h8, h7⟩
  by_cases hlt : q < ids.length
  · have hsu := items_succ (l := l) (main := main) hlt
    have hxl := refI_len (itemsOf l main (ids.take q)) []
    have hil := items_len l main (ids.take q)
    rw [List.length_take] at hil
    have hkn : ∀ z ∈ refI (itemsOf l main (ids.take q)), itemOf l main z.id = some z := fun z hz => by
      rcases mem_refI _ _ hz with h | h
      · simp at h
      · exact items_known h
    have hfold : refI (itemsOf l main (ids.take (q + 1))) = (itemOf l main ids[q]).toList.foldl stepI (refI (itemsOf l main (ids.take q))) := by
      unfold refI; rw [hsu, List.foldl_append]
    change (refI (itemsOf l main (ids.take q))).length ≤ _ at hxl
    generalize refI (itemsOf l main (ids.take q)) = X at h7 hxl hkn hfold
    simp only [List.length_nil, Nat.zero_add] at hxl
    simp [go_sem, h0, h1, h2, h8, h7, hlt]
    refine CallSem.pure (rgetE_ac l ids[q]) (by simp [go_sem]) ?_
    cases hg : getE l ids[q] with
    | none =>
      have hio : itemOf l main ids[q] = none := by unfold itemOf; rw [hg]; rfl
      rw [hio] at hfold
      simp [go_sem, h0, h1, h2, h8, h7, hlt, wrap_succ hlt hm]
      exact ⟨ids.length - (q + 1), by omega, q + 1, by omega, rfl, rfl, by rw [hfold]; rfl⟩
    | some e =>
      have hio : itemOf l main ids[q] = some ⟨ids[q], closeOf l main ids[q], e.time⟩ := by unfold itemOf; rw [hg]; rfl
      rw [hio] at hfold
      obtain ⟨x, hx⟩ : ∃ x : Item, x = ⟨ids[q], closeOf l main ids[q], e.time⟩ := ⟨_, rfl⟩
      have hxi : x.id = ids[q] := by rw [hx]
      rw [← hx] at hfold hio
      have hxk : itemOf l main x.id = some x := by rw [hxi]; exact hio
      have hfold2 : refI (itemsOf l main (ids.take (q + 1))) = stepI X x := hfold
      have hXm : X.length ≤ maxLen := by unfold maxLen; omega
      have hnl := idsI_len X
      simp [go_sem, h0, h1, h2, h8, h7, hlt]
      refine CallSem.pure (has_ac (idsI X) ids[q]) (by simp [go_sem]) ?_
      cases hh : (idsI X).contains ids[q] with
      | true =>
        have hst : stepI X x = X := by unfold stepI; rw [hxi, if_pos hh]
        simp [go_sem, h0, h1, h2, h8, h7, hlt, wrap_succ hlt hm]
        exact ⟨ids.length - (q + 1), by omega, q + 1, by omega, rfl, rfl, by rw [hfold2, hst]⟩
      | false =>
        have hst : stepI X x = insI X x := by unfold stepI; rw [hxi, if_neg (by rw [hh]; simp)]
        simp [go_sem, h0, h1, h2, h8, h7, hlt]
        refine AWp.loop_vc [] (fun m t => ∃ k : Nat, k ≤ X.length ∧ m = X.length - k ∧ t.σ 0 = evs l ∧ t.σ 1 = ints main ∧ t.σ 2 = ints ids ∧ t.σ 8 = I q ∧ t.σ 7 = ints (idsI X) ∧ t.σ 11 = I k ∧ ∀ j y, j < k → X[j]? = some y → itLt y x = true) X.length ⟨0, by simp [go_sem, h0, h1, h2, h8, h7]⟩ ?_
        clear h0 h1 h2 h7 h8
        rintro m t ⟨k, hk, rfl, h0, h1, h2, h8, h7, h11, hbelow⟩
        refine AWp.drawAll rfl (by kernel_rfl) ?_
        by_cases hkl : k < X.length
        · have hget := idsI_get hkl
          simp [go_sem, h0, h1, h2, h8, h7, h11, hlt, hkl, hnl, hget, ← hxi]
          refine CalmThen.pure (ahead_ac l main X[k] x (hkn _ (List.getElem_mem _)) hxk hsz hf) (by simp [go_sem]) ?_
          cases hah : itLt X[k] x with
          | true =>
            simp [go_sem, h0, h1, h2, h8, h7, h11, hlt, hkl, hnl, wrap_succ hkl hXm]
            refine ⟨X.length - (k + 1), by omega, k + 1, by omega, rfl, rfl, below_step hkl hbelow hah⟩
          | false =>
            simp [go_sem, h0, h1, h2, h8, h7, h11, hlt, hkl, hnl]
            simp [go_sem, h0, h1, h2, h8, h7, h11, hlt, hk, hnl]
            refine ⟨⟨by omega, by omega⟩, ?_⟩
            refine AWp.drawAny [] [72] [] [] [0, 1, 2, 3, 4, 5, 6, 7, 8, 10, 9, 11, 12] rfl (by kernel_rfl) hinj rfl ?_
            simp [go_sem, h0, h1, h2, h8, h7, h11, hlt, hk, hnl, wrap_succ hlt hm]
            refine ⟨⟨by omega, by omega⟩, ⟨by omega, by omega⟩, ids.length - (q + 1), by omega, q + 1, by omega, rfl, rfl, ?_⟩
            rw [hfold2, hst, insI_at hk hbelow (fun y hy => by rw [List.getElem?_eq_getElem hkl] at hy; cases hy; exact hah)]
            exact idsI_put hxi
        · simp [go_sem, h0, h1, h2, h8, h7, h11, hlt, hkl, hnl]
          simp [go_sem, h0, h1, h2, h8, h7, h11, hlt, hk, hnl]
          refine ⟨⟨by omega, by omega⟩, ?_⟩
          refine AWp.drawAny [] [72] [] [] [0, 1, 2, 3, 4, 5, 6, 7, 8, 10, 9, 11, 12] rfl (by kernel_rfl) hinj rfl ?_
          simp [go_sem, h0, h1, h2, h8, h7, h11, hlt, hk, hnl, wrap_succ hlt hm]
          refine ⟨⟨by omega, by omega⟩, ⟨by omega, by omega⟩, ids.length - (q + 1), by omega, q + 1, by omega, rfl, rfl, ?_⟩
          rw [hfold2, hst, insI_at hk hbelow (fun y hy => by rw [List.getElem?_eq_none (by omega)] at hy; cases hy)]
          exact idsI_put hxi
  · obtain rfl : q = ids.length := by omega
    rw [List.take_of_length_le (Nat.le_refl _)] at h7
    simp [go_sem, h0, h1, h2, h8, h7]
    refine PostR.ret ?_
    simp [go_sem]
end Go.Proofs.Ytmkchaiijfhnfaa
