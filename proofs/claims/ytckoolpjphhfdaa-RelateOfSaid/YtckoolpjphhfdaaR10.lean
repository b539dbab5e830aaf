/- Chapter 36: plain facts on counted texts; the reference's Reactions. No condition. -/
import Derived.Test.YtckoolpjphhfdaaR9
namespace Go.Proofs.Ytckoolpjphhfdaa
open Go Go.Abs Go.Proofs
set_option linter.unusedSimpArgs false
set_option linter.unusedVariables false
theorem bl_asymm {a b : Bytes} (h : Op.bytesLess a b = true) : Op.bytesLess b a = false := by
  cases hh : Op.bytesLess b a with
  | false => rfl
  | true => have := bl_trans _ _ _ h hh; rw [bl_irrefl] at this; cases this
theorem insT_at {t : Bytes} : ∀ {T : List Bytes} {k : Nat}, k ≤ T.length → (∀ j y, j < k → T[j]? = some y → Op.bytesLess y t = true) → (∀ y, T[k]? = some y → Op.bytesLess y t = false ∧ ¬ y = t) → insT t T = T.take k ++ t :: T.drop k
  | [], k, hk, _, _ => by simp at hk; subst hk; rfl
  | x :: T, 0, _, _, he => by
    obtain ⟨h1, h2⟩ := he x rfl
    have h3 : Op.bytesLess t x = true := by
      cases hh : Op.bytesLess t x with
      | true => rfl
      | false => exact absurd (bl_total _ _ h1 hh) h2
    unfold insT
    rw [if_pos h3]; rfl
  | x :: T, k + 1, hk, hlt, he => by
    have hx := hlt 0 x (by omega) rfl
    have h1 := bl_asymm hx
    have h2 : ¬ t = x := fun h => by subst h; rw [bl_irrefl] at hx; cases hx
    unfold insT
    rw [if_neg (by rw [h1]; simp), if_neg h2, insT_at (T := T) (k := k) (by simpa using hk) (fun j y hj hy => hlt (j + 1) y (by omega) (by simpa using hy)) (fun y hy => he y (by simpa using hy))]
    rfl
theorem insT_old {t : Bytes} : ∀ {T : List Bytes} {k : Nat}, (∀ j y, j < k → T[j]? = some y → Op.bytesLess y t = true) → T[k]? = some t → insT t T = T
  | [], k, _, h => by simp at h
  | x :: T, 0, _, h => by
    simp at h; subst h
    unfold insT
    rw [bl_irrefl]; simp
  | x :: T, k + 1, hlt, h => by
    have hx := hlt 0 x (by omega) rfl
    have h1 := bl_asymm hx
    have h2 : ¬ t = x := fun h => by subst h; rw [bl_irrefl] at hx; cases hx
    unfold insT
    rw [if_neg (by rw [h1]; simp), if_neg h2, insT_old (T := T) (k := k) (fun j y hj hy => hlt (j + 1) y (by omega) (by simpa using hy)) (by simpa using h)]
theorem texts_snoc (D : Pairs) (p : Bytes × Bytes) : textsL (D ++ [p]) = insT p.1 (textsL D) := by unfold textsL; rw [List.foldl_append]; rfl
theorem cntAV_other {D : Pairs} {p : Bytes × Bytes} {t : Bytes} (h : ¬ p.1 = t) : cntAV (D ++ [p]) t = cntAV D t := by unfold cntAV; rw [cnt_snoc, if_neg h]
theorem cntAV_same (D : Pairs) (p : Bytes × Bytes) : cntAV (D ++ [p]) p.1 = .agg [S p.1, I ((cnt D p.1 : Nat) + 1 : Int)] := by unfold cntAV; rw [cnt_snoc, if_pos rfl]; rfl
theorem reactL_len (D : Pairs) : (reactL D).length = (textsL D).length := List.length_map ..
/-- A text that is there already is counted once more. -/
theorem reactL_old {D : Pairs} {p : Bytes × Bytes} {k : Nat} (hlt : ∀ j y, j < k → (textsL D)[j]? = some y → Op.bytesLess y p.1 = true) (h : (textsL D)[k]? = some p.1) : reactL (D ++ [p]) = (reactL D).set k (.agg [S p.1, I ((cnt D p.1 : Nat) + 1 : Int)]) := by
  have hk := (List.getElem?_eq_some_iff.1 h).1
  unfold reactL
  rw [texts_snoc, insT_old hlt h]
  apply List.ext_getElem
  · simp
  · intro i h1 h2
    rw [List.getElem_map, List.getElem_set]
    by_cases hi : k = i
    · subst hi
      have : (textsL D)[k] = p.1 := (List.getElem?_eq_some_iff.1 h).2
      rw [if_pos rfl, this, cntAV_same]
    · rw [if_neg hi, List.getElem_map]
      refine cntAV_other fun he => hi ?_
      have hs := (textsL_spec D).1
      have hi' : i < (textsL D).length := by simpa using h1
      have hkk : (textsL D)[k] = p.1 := (List.getElem?_eq_some_iff.1 h).2
      rcases Nat.lt_trichotomy k i with g | g | g
      · have := List.pairwise_iff_getElem.1 hs k i hk hi' g
        unfold LtB at this
        rw [hkk, he, bl_irrefl] at this; cases this
      · exact g
      · have := List.pairwise_iff_getElem.1 hs i k hi' hk g
        unfold LtB at this
        rw [hkk, ← he, bl_irrefl] at this; cases this
/-- A new text is put in its place. -/
theorem reactL_new {D : Pairs} {p : Bytes × Bytes} {k : Nat} (hk : k ≤ (textsL D).length) (hlt : ∀ j y, j < k → (textsL D)[j]? = some y → Op.bytesLess y p.1 = true) (h : ∀ y, (textsL D)[k]? = some y → Op.bytesLess y p.1 = false ∧ ¬ y = p.1) :
    cnt D p.1 = 0 ∧ reactL (D ++ [p]) = (reactL D).take k ++ .agg [S p.1, I 1] :: (reactL D).drop k := by
  have hins := insT_at hk hlt h
  have hs := (textsL_spec (D ++ [p])).1
  rw [texts_snoc, hins] at hs
  have hnot : ∀ t ∈ (textsL D).take k ++ (textsL D).drop k, ¬ p.1 = t := by
    have := List.pairwise_append.1 hs
    have h2 := List.pairwise_cons.1 this.2.1
    intro t ht he
    subst he
    rcases List.mem_append.1 ht with ht | ht
    · have := this.2.2 _ ht _ (List.mem_cons_self ..)
      unfold LtB at this; rw [bl_irrefl] at this; cases this
    · have := h2.1 _ ht
      unfold LtB at this; rw [bl_irrefl] at this; cases this
  have hc : cnt D p.1 = 0 := by
    cases hz : cnt D p.1 with
    | zero => rfl
    | succ n =>
      have hm : p.1 ∈ textsL D := ((textsL_spec D).2 _).2 (cnt_pos.1 (by omega))
      rw [← List.take_append_drop k (textsL D)] at hm
      exact absurd rfl (hnot _ hm)
  refine ⟨hc, ?_⟩
  unfold reactL
  rw [texts_snoc, hins, List.map_append, List.map_cons, cntAV_same, hc, List.map_take, List.map_drop]
  congr 1
  · rw [← List.map_take, ← List.map_take]
    exact List.map_congr_left fun t ht => cntAV_other (hnot t (List.mem_append.2 (.inl ht)))
  · congr 1
    rw [← List.map_drop, ← List.map_drop]
    exact List.map_congr_left fun t ht => cntAV_other (hnot t (List.mem_append.2 (.inr ht)))
def addP (D : Pairs) (e : Evt) : Pairs := if pairE e ∈ D then D else D ++ [pairE e]
def pairsR (L : List Evt) : Pairs := L.foldl addP []
theorem pairsR_succ {L : List Evt} {k : Nat} (hk : k < L.length) : pairsR (L.take (k + 1)) = addP (pairsR (L.take k)) L[k] := by
  unfold pairsR; rw [List.take_succ_eq_append_getElem hk, List.foldl_append]; rfl
theorem mem_pairsR : ∀ (L : List Evt) {p : Bytes × Bytes}, p ∈ pairsR L ↔ ∃ e ∈ L, pairE e = p := by
  intro L p
  unfold pairsR
  suffices ∀ (L : List Evt) (D : Pairs), p ∈ L.foldl addP D ↔ p ∈ D ∨ ∃ e ∈ L, pairE e = p from by simpa using this L []
  intro L
  induction L with
  | nil => intro D; simp
  | cons x L ih =>
    intro D
    rw [List.foldl_cons, ih]
    have : p ∈ addP D x ↔ p ∈ D ∨ pairE x = p := by
      unfold addP
      split
      · rename_i h
        exact ⟨.inl, fun g => g.elim id fun g => g ▸ h⟩
      · rw [List.mem_append, List.mem_singleton, @eq_comm _ p]
    rw [this]
    simp only [List.mem_cons, exists_eq_or_imp, or_assoc]
theorem pairs_rel (id : Int) (K : List Evt) : pairsL id K = pairsR (relL K 4 id) := by
  unfold pairsL pairsR relL
  suffices ∀ (K : List Evt) (D : Pairs), K.foldl (pairStep id) D = (K.filter (isRel 4 id)).foldl addP D from this K []
  intro K
  induction K with
  | nil => intro D; rfl
  | cons e K ih =>
    intro D
    rw [List.foldl_cons, ih, List.filter_cons]
    have hrr : isReact id e = isRel 4 id e := rfl
    unfold pairStep
    rw [hrr]
    cases h : isRel 4 id e with
    | true =>
      rw [if_pos rfl, List.foldl_cons]
      congr 1
      unfold addP
      by_cases hm : pairE e ∈ D
      · rw [if_neg (fun g => g.2 hm), if_pos hm]
      · rw [if_pos ⟨rfl, hm⟩, if_neg hm]
    | false =>
      rw [if_neg (by simp), if_neg (by simp)]
end Go.Proofs.Ytckoolpjphhfdaa
