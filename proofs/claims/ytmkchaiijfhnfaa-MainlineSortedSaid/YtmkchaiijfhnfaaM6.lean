/- Contracts of chapter 19: the reference's Closest, what the laws look at; plain facts of the way. No condition. -/
import Derived.Test.YtmkchaiijfhnfaaM3
namespace Go.Proofs.Ytmkchaiijfhnfaa
open Go Go.Abs
set_option linter.unusedSimpArgs false
theorem idx_first {α : Type} {p : α → Bool} : ∀ {l : List α} {q : Nat} (h : q < l.length), (∀ (j : Nat) x, j < q → l[j]? = some x → p x = false) → p l[q] = true → idxI p l = (q : Int) := by
  intro l q h hno hp
  unfold idxI
  rw [List.findIdx?_eq_some_iff_getElem.2 ⟨h, hp, fun j hj => by simp [hno j _ hj (List.getElem?_eq_getElem (by omega))]⟩]
set_option maxRecDepth 8000 in
set_option maxHeartbeats 4000000 in
theorem place19_ac (l : List Int) (n : Int) : AC Try.prog 24 [ints l, I n] (I (placeL l n)) := by
  refine AC.of_body Try.func24 rfl rfl Try.ntmps24 (congrArg Array.toList Try.results24) (by simp) (pures2 (pure_ints _) (pure_I _)) (pure_I _) fun w S' => AWp.bound 0 rfl fun hlen => AWp.of_vc [] ?_
  rw [ints_len] at hlen
  simp [go_sem]
  refine AWp.loop_vc [] (fun m s => ∃ q : Nat, q ≤ l.length ∧ m = l.length - q ∧ s.σ 0 = ints l ∧ s.σ 1 = I n ∧ s.σ 5 = I q ∧ ∀ (j : Nat) x, j < q → l[j]? = some x → (n == x) = false) l.length ⟨0, by simp [go_sem]⟩ ?_
  rintro m s ⟨q, hq, rfl, h0, h1, h5, hno⟩
  by_cases hlt : q < l.length
  · by_cases hk : l[q] = n
    · have hE : placeL l n = q := by
        have hh : hasI l n = true := by unfold hasI; simp; exact hk ▸ List.getElem_mem hlt
        unfold placeL
        rw [if_pos hh]
        exact idx_first (p := fun y => n == y) hlt hno (by simp [hk])
      simp [go_sem, h0, h1, h5, hlt, hk]
      refine PostR.ret ?_
      simp [go_sem, hE]
    · simp [go_sem, h0, h1, h5, hlt, hk, wrap_succ hlt hlen]
      exact ⟨l.length - (q + 1), by omega, q + 1, by omega, rfl, rfl, fun j x hj hx => by simpa using below_step (P := fun x => (n == x) = false) hlt (fun j x hj hx => by simpa using hno j x hj hx) (by simpa using fun h : n = l[q] => hk h.symm) j x hj hx⟩
  · have hE : placeL l n = l.length := by
      have hh : hasI l n = false := by
        unfold hasI
        cases hc : l.contains n
        · rfl
        · obtain ⟨j, hj, hje⟩ := List.mem_iff_getElem.1 (by simpa using hc)
          have := hno j _ (by omega) (List.getElem?_eq_getElem hj)
          rw [hje] at this; simp at this
      unfold placeL
      rw [hh]; rfl
    simp [go_sem, h0, h1, h5, hlt]
    refine PostR.ret ?_
    simp [go_sem, hE]

set_option maxRecDepth 8000 in
set_option maxHeartbeats 4000000 in
theorem rclose_ac (l : List Evt) (main : List Int) (id : Int) (hsz : l.length ≤ 100000) (hf : Few l) : AC Try.prog 14 [evs l, ints main, I id] (I (closeOf l main id)) := by
  refine AC.of_body Try.func14 rfl rfl Try.ntmps14 (congrArg Array.toList Try.results14) (by simp) (pures3 (pure_evs _) (pure_ints _) (pure_I _)) (pure_I _) fun w S' => AWp.of_vc [] ?_
  have hwl := few_len l id
  unfold closeOf
  simp [go_sem]
  refine CallSem.pure (rway_ac l id hsz hf) (by simp [go_sem]) ?_
  generalize wayOf l id = W at hwl ⊢
  have hm : W.length ≤ maxLen := by unfold maxLen; omega
  simp [go_sem]
  refine AWp.loop_vc [] (fun m s => ∃ q : Nat, q ≤ W.length ∧ m = W.length - q ∧ s.σ 1 = ints main ∧ s.σ 7 = ints W ∧ s.σ 8 = I q ∧ ∀ (j : Nat) x, j < q → W[j]? = some x → hasI main x = false) W.length ⟨0, by simp [go_sem]⟩ ?_
  rintro m s ⟨q, hq, rfl, h1, h7, h8, hno⟩
  by_cases hlt : q < W.length
  · simp [go_sem, h1, h7, h8, hlt]
    refine CallSem.pure (r := B (hasI main W[q])) (has_ac main W[q]) (by simp [go_sem]) ?_
    cases hh : hasI main W[q] with
    | true =>
      have hE : W.find? (hasI main) = some W[q] := find_some hlt hno hh
      simp [go_sem, h1, h7, h8, hlt]
      refine CallSem.pure (place19_ac main W[q]) (by simp [go_sem]) ?_
      simp [go_sem]
      refine PostR.ret ?_
      rw [hE]
      unfold placeL
      rw [if_pos hh]
      simp [go_sem]
    | false =>
      simp [go_sem, h1, h7, h8, hlt, wrap_succ hlt hm]
      exact ⟨W.length - (q + 1), by omega, q + 1, by omega, rfl, rfl, below_step hlt hno hh⟩
  · have hE : W.find? (hasI main) = none := find_no fun i x hi hx => hno i x (by omega) hx
    simp [go_sem, h1, h7, h8, hlt]
    refine PostR.ret ?_
    rw [hE]
    simp [go_sem]

def fewOf (l : List Evt) : Bool := decide (l.length ≤ 14) && l.all fun e => decide (e.auth.length ≤ 20)
theorem few_spec {l : List Evt} (h : fewOf l = true) : l.length ≤ 100000 ∧ Few l ∧ l.length ≤ 14 := by
  simp only [fewOf, Bool.and_eq_true, decide_eq_true_eq, List.all_eq_true] at h
  exact ⟨by omega, fun e he => by have := h.2 e he; omega, h.1⟩
set_option maxRecDepth 8000 in
set_option maxHeartbeats 4000000 in
theorem few_ac (l : List Evt) : AC Try.prog 8 [evs l] (B (fewOf l)) := by
  refine AC.of_body Try.func8 rfl rfl Try.ntmps8 (congrArg Array.toList Try.results8) (by simp) (pures1 (pure_evs _)) (pure_B _) fun w S' => AWp.bound 0 rfl fun hlen => AWp.of_vc [] ?_
  rw [evs_len] at hlen
  by_cases g : (14 : Int) < l.length
  · have hn : fewOf l = false := by simp [fewOf]; omega
    simp [go_sem, g]
    refine PostR.ret ?_
    simp [go_sem, hn]
  have g' : l.length ≤ 14 := by omega
  simp [go_sem, g]
  refine AWp.loop_vc [] (fun m s => ∃ q : Nat, q ≤ l.length ∧ m = l.length - q ∧ s.σ 0 = evs l ∧ s.σ 3 = I q ∧ ∀ (j : Nat) e, j < q → l[j]? = some e → decide (e.auth.length ≤ 20) = true) l.length ⟨0, by simp [go_sem]⟩ ?_
  rintro m s ⟨q, hq, rfl, h0, h3, hyes⟩
  by_cases hlt : q < l.length
  · by_cases hp : (20 : Int) < l[q].auth.length
    · have hn : fewOf l = false := by
        have : (l.all fun e => decide (e.auth.length ≤ 20)) = false := all_false hlt (by simp; omega)
        simp only [fewOf, this, Bool.and_false]
      simp [go_sem, h0, h3, hlt, hp]
      refine PostR.ret ?_
      simp [go_sem, hn]
    · simp [go_sem, h0, h3, hlt, hp, wrap_succ hlt hlen]
      exact ⟨l.length - (q + 1), by omega, q + 1, by omega, rfl, rfl, fun j e hj he => by simpa using below_step hlt hyes (by simp; omega) j e hj he⟩
  · have hy : (l.all fun e => decide (e.auth.length ≤ 20)) = true := all_true fun j e hj => hyes j e (by have := (List.getElem?_eq_some_iff.1 hj).1; omega) hj
    simp [go_sem, h0, h3, hlt]
    refine PostR.ret ?_
    simp only [fewOf, hy, g']
    simp [go_sem]

theorem wayF_step (l : List Evt) (n : Nat) (seen : List Int) (id : Int) : wayF l (n + 1) seen id = if hasI seen id = true then [] else
    match getE l id with
    | none => []
    | some e =>
      match powE l e with
      | none => [id]
      | some nx => id :: wayF l n (seen ++ [id]) nx := rfl
theorem wayF_seen (l : List Evt) (n : Nat) {seen : List Int} {id : Int} (hc : hasI seen id = true) : wayF l (n + 1) seen id = [] := by rw [wayF_step, if_pos hc]
theorem wayF_none (l : List Evt) (n : Nat) (seen : List Int) {id : Int} (hg : getE l id = none) : wayF l (n + 1) seen id = [] := by rw [wayF_step, hg]; split <;> rfl
theorem wayF_last {l : List Evt} (n : Nat) {seen : List Int} {id : Int} {e : Evt} (hc : hasI seen id = false) (hg : getE l id = some e) (hp : powE l e = none) : wayF l (n + 1) seen id = [id] := by rw [wayF_step, hc, hg]; simp [hp]
theorem wayF_more {l : List Evt} (n : Nat) {seen : List Int} {id nx : Int} {e : Evt} (hc : hasI seen id = false) (hg : getE l id = some e) (hp : powE l e = some nx) : wayF l (n + 1) seen id = id :: wayF l n (seen ++ [id]) nx := by rw [wayF_step, hc, hg]; simp [hp]
/-- What holds along a way. -/
theorem wayF_facts (l : List Evt) : ∀ (n : Nat) (seen : List Int) (id : Int), Seen l seen → Seen l (seen ++ wayF l n seen id) ∧ (wayF l n seen id = [] ∨ (wayF l n seen id)[0]? = some id) ∧ (∀ x ∈ wayF l n seen id, (getE l x).isSome = true) ∧
    (∀ (i : Nat) a b, (wayF l n seen id)[i]? = some a → (wayF l n seen id)[i + 1]? = some b → ∃ e, getE l a = some e ∧ powE l e = some b)
  | 0, seen, id, hs => by simp [wayF, hs]
  | n + 1, seen, id, hs => by
    cases hc : hasI seen id with
    | true => rw [wayF_seen l n hc]; simp [hs]
    | false =>
      cases hg : getE l id with
      | none => rw [wayF_none l n seen hg]; simp [hs]
      | some e =>
        have hsn := hs.snoc hc hg
        cases hp : powE l e with
        | none =>
          rw [wayF_last n hc hg hp]
          refine ⟨hsn, .inr rfl, fun x hx => ?_, fun i a b h1 h2 => by simp at h2⟩
          simp only [List.mem_singleton] at hx
          rw [hx, hg]; rfl
        | some nx =>
          rw [wayF_more n hc hg hp]
          obtain ⟨h1, h2, h3, h4⟩ := wayF_facts l n (seen ++ [id]) nx hsn
          refine ⟨by simpa using h1, .inr rfl, fun x hx => ?_, fun i a b ha hb => ?_⟩
          · rcases List.mem_cons.1 hx with rfl | hx
            · rw [hg]; rfl
            · exact h3 x hx
          · cases i with
            | zero =>
              simp only [List.getElem?_cons_zero, Option.some.injEq, List.getElem?_cons_succ, Nat.zero_add] at ha hb
              subst ha
              refine ⟨e, hg, ?_⟩
              rcases h2 with h2 | h2
              · rw [h2] at hb; simp at hb
              · rw [h2] at hb; rw [hp, hb]
            | succ i =>
              simp only [List.getElem?_cons_succ] at ha hb
              exact h4 i a b ha hb
theorem way_head {l : List Evt} {id : Int} {e : Evt} (hg : getE l id = some e) : ∃ W, wayOf l id = id :: W := by
  have hl : 0 < l.length := List.length_pos_of_mem (List.mem_of_find?_eq_some hg)
  obtain ⟨n, hn⟩ : ∃ n, l.length = n + 1 := ⟨l.length - 1, by omega⟩
  unfold wayOf
  rw [hn]
  have hc : hasI [] id = false := rfl
  cases hp : powE l e with
  | none => exact ⟨_, wayF_last n hc hg hp⟩
  | some nx => exact ⟨_, wayF_more n hc hg hp⟩
theorem way_none {l : List Evt} {id : Int} (hg : getE l id = none) : wayOf l id = [] := by
  unfold wayOf
  cases l.length with
  | zero => rfl
  | succ n => exact wayF_none l n [] hg
theorem nodup_idx {W : List Int} (h : W.Pairwise (· ≠ ·)) {i : Nat} (hi : i < W.length) : idxI (fun y => W[i] == y) W = (i : Int) := by
  refine idx_first hi (fun j x hj hx => ?_) (by simp)
  rw [List.getElem?_eq_getElem (by omega)] at hx
  cases hx
  have := List.pairwise_iff_getElem.1 h j i (by omega) hi hj
  simp; exact fun hh => this hh.symm
theorem way_closest {l : List Evt} {id : Int} {i : Nat} (hi : i < (wayOf l id).length) : closeOf l (wayOf l id) (wayOf l id)[i] = i := by
  obtain ⟨h1, _, h3, _⟩ := wayF_facts l l.length [] id ⟨List.Pairwise.nil, fun x hx => by cases hx⟩
  have hmem : (wayOf l id)[i] ∈ wayOf l id := List.getElem_mem hi
  have hk := h3 _ hmem
  obtain ⟨e, he⟩ := Option.isSome_iff_exists.1 hk
  obtain ⟨W, hW⟩ := way_head he
  unfold closeOf
  have hh : hasI (wayOf l id) (wayOf l id)[i] = true := by unfold hasI; simp
  rw [hW, List.find?_cons, hh]
  exact nodup_idx h1.1 hi
end Go.Proofs.Ytmkchaiijfhnfaa
