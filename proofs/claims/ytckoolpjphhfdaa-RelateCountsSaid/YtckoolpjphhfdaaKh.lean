/- Several texts of the proof in one: R9, R10, R11, R12, R13, R14, R15, R16, R17, R18, R19, R20, R21, R22, R23, Tp, Te. No condition. -/
import Derived.Test.YtckoolpjphhfdaaKg
import Derived.Test.YtckoolpjphhfdaaKc
import Derived.Test.YtckoolpjphhfdaaKd
import Derived.Test.YtckoolpjphhfdaaKb
set_option linter.unusedSimpArgs false
set_option linter.unusedVariables false
-- part R9
namespace Go.Proofs.Ytckoolpjphhfdaa
open Go Go.Abs Go.Proofs
set_option linter.unusedSimpArgs false
set_option linter.unusedVariables false
def isRel (rel id : Int) (e : Evt) : Bool := decide ((relE e).1 = rel ∧ (relE e).2 = id)
def relL (K : List Evt) (rel id : Int) : List Evt := K.filter (isRel rel id)
theorem rel_succ {K : List Evt} {k : Nat} (rel id : Int) (hk : k < K.length) : relL (K.take (k + 1)) rel id = relL (K.take k) rel id ++ if (relE K[k]).1 = rel ∧ (relE K[k]).2 = id then [K[k]] else [] := by
  unfold relL
  rw [List.take_succ_eq_append_getElem hk, List.filter_append]
  congr 1
  by_cases h : (relE K[k]).1 = rel ∧ (relE K[k]).2 = id <;> simp [isRel, h]
theorem relL_len (K : List Evt) (rel id : Int) : (relL K rel id).length ≤ K.length := List.length_filter_le _ _
set_option maxRecDepth 8000 in
set_option maxHeartbeats 4000000 in
theorem related_ac (l : List Evt) (rel id : Int) (hsz : l.length ≤ 100000) : AC Try.prog 32 [evs l, I rel, I id] (evs (relL (onceL l) rel id)) := by
  refine AC.of_body Try.func32 rfl rfl Try.ntmps32 (congrArg Array.toList Try.results32) (by simp) (pures3 (pure_evs _) (pure_I _) (pure_I _)) (pure_evs _) fun w S' => AWp.of_vc [14] ?_
  have hol := onceL_len l
  simp [go_sem]
  refine CallSem.pure (once_ac l hsz) (by simp [go_sem]) ?_
  generalize onceL l = K at hol ⊢
  have hm : K.length ≤ maxLen := by unfold maxLen; omega
  simp [go_sem]
  refine AWp.loop_vc [] (fun m s => ∃ k v : Nat, k ≤ K.length ∧ m = K.length - k ∧ s.σ 1 = I rel ∧ s.σ 2 = I id ∧ s.σ 7 = evs K ∧ s.σ 9 = I k ∧ s.σ 8 = .ref 14 v ∧ s.ver 14 = v ∧ s.h 14 = .arr 34 29 ((relL (K.take k) rel id).map ev)) K.length ⟨0, by simp [go_sem, relL]⟩ ?_
  rintro m s ⟨k, v, hk, rfl, h1, h2, h7, h9, h8, hv8, hh8⟩
  by_cases hlt : k < K.length
  · have hsu := rel_succ rel id hlt
    have htl := relL_len (K.take k) rel id
    rw [List.length_take] at htl
    generalize relL (K.take k) rel id = T at hh8 hsu htl
    simp [go_sem, h1, h2, h7, h9, h8, hv8, hh8, hlt]
    refine CallSem.pure (rrel_ac K[k]) (by simp [go_sem]) ?_
    by_cases hr : (relE K[k]).1 = rel
    · by_cases hi : (relE K[k]).2 = id
      · rw [if_pos ⟨hr, hi⟩] at hsu
        simp [go_sem, h1, h2, h7, h9, h8, hv8, hh8, hlt, hr, hi, wrap_succ hlt hm]
        exact ⟨⟨by omega, by omega⟩, K.length - (k + 1), by omega, k + 1, by omega, rfl, rfl, by rw [hsu]; simp; rfl⟩
      · rw [if_neg (fun h => hi h.2)] at hsu
        simp [go_sem, h1, h2, h7, h9, h8, hv8, hh8, hlt, hr, hi, wrap_succ hlt hm]
        exact ⟨K.length - (k + 1), by omega, k + 1, by omega, rfl, rfl, by rw [hsu]; simp⟩
    · rw [if_neg (fun h => hr h.1)] at hsu
      simp [go_sem, h1, h2, h7, h9, h8, hv8, hh8, hlt, hr, wrap_succ hlt hm]
      exact ⟨K.length - (k + 1), by omega, k + 1, by omega, rfl, rfl, by rw [hsu]; simp⟩
  · obtain rfl : k = K.length := by omega
    rw [List.take_of_length_le (Nat.le_refl _)] at hh8
    simp [go_sem, h1, h2, h7, h9, h8, hv8, hh8]
    refine PostR.retW [14] ?_ (.refl _)
    simp [go_sem, h8, hv8, hh8]

def pickE (x e : Evt) : Evt := if laterE x e = true then e else x
/-- The latest of the first k + 1 events. -/
def latU (L : List Evt) : Nat → Evt
  | 0 => L.getD 0 evZ
  | k + 1 => match L[k + 1]? with
    | some e => pickE (latU L k) e
    | none => latU L k
def latestOf (L : List Evt) : Int := if L.length = 0 then 0 else (latU L (L.length - 1)).id
theorem latU_succ {L : List Evt} {k : Nat} (hk : k + 1 < L.length) : latU L (k + 1) = pickE (latU L k) L[k + 1] := by rw [latU, List.getElem?_eq_getElem hk]
theorem ev_full (a x : Evt) : evc a ++ List.drop 29 (evc x) = evc a := by rw [List.drop_eq_nil_of_le (show (evc x).length ≤ 29 from Nat.le_refl _), List.append_nil]
set_option maxRecDepth 8000 in
set_option maxHeartbeats 4000000 in
theorem rlatest_ac (L : List Evt) (hsz : L.length ≤ 100000) : AC Try.prog 33 [evs L] (I (latestOf L)) := by
  refine AC.of_body Try.func33 rfl rfl Try.ntmps33 (congrArg Array.toList Try.results33) (by simp) (pures1 (pure_evs _)) (pure_I _) fun w S' => AWp.of_vc [] ?_
  have hm : L.length ≤ maxLen := by unfold maxLen; omega
  unfold latestOf
  by_cases h0 : L.length = 0
  · have hL : L = [] := List.eq_nil_of_length_eq_zero h0
    subst hL
    simp [go_sem]
    refine PostR.ret ?_
    simp [go_sem]
  · have hne : ¬ L = [] := fun h => h0 (by rw [h]; rfl)
    have hpos : 0 < L.length := by omega
    have hz : L.getD 0 evZ = L[0] := by rw [List.getD_eq_getElem?_getD, List.getElem?_eq_getElem hpos]; rfl
    have hlz : latU L 0 = L[0] := hz
    rw [if_neg h0]
    simp [go_sem, h0, hne, hpos]
    refine AWp.loop_vc [] (fun m s => ∃ k : Nat, k + 1 ≤ L.length ∧ m = L.length - k ∧ s.σ 0 = evs L ∧ s.σ 4 = I ((k : Int) + 1) ∧ s.σ 3 = .rptr 3 1 0 0 ∧ s.ver 3 = 1 ∧ s.h 3 = .box (evc (latU L k))) L.length ⟨0, by omega, by omega, by simp [go_sem], by simp [go_sem], by simp [go_sem], by simp [go_sem], by rw [hlz]; simp [go_sem]⟩ ?_
    rintro m s ⟨k, hk, rfl, h0', h4, h3, hv3, hh3⟩
    by_cases hlt : k + 1 < L.length
    · have hsu := latU_succ hlt
      have t1 : (0 : Int) ≤ (k : Int) + 1 := by omega
      have t2 : ((k : Int) + 1).toNat = k + 1 := by omega
      have t4 : (k : Int) + 1 < L.length := by omega
      have hws : IntKind.i64.wrap ((k : Int) + 1 + 1) = (k : Int) + 1 + 1 := wrap_i64 (by omega) (by omega)
      generalize latU L k = x at hh3 hsu
      simp [go_sem, h0', h4, h3, hv3, hh3, t4]
      refine AWp.drawAll rfl (by kernel_rfl) ?_
      unfold pickE laterE at hsu
      by_cases c1 : x.time < L[k + 1].time
      · rw [if_pos (by simp [c1])] at hsu
        simp [go_sem, h0', h4, h3, hv3, hh3, t1, t2, t4, hlt, c1, hws]
        exact ⟨L.length - (k + 1), by omega, k + 1, by omega, rfl, by simp, by rw [hsu]; first | exact congrArg _ (ev_full _ _) | exact ev_full _ _⟩
      · by_cases c2 : L[k + 1].time = x.time
        · by_cases c3 : x.id < L[k + 1].id
          · rw [if_pos (by simp [c2, c3])] at hsu
            simp [go_sem, h0', h4, h3, hv3, hh3, t1, t2, t4, hlt, c1, c2, c3, hws]
            exact ⟨L.length - (k + 1), by omega, k + 1, by omega, rfl, by simp, by rw [hsu]; first | exact congrArg _ (ev_full _ _) | exact ev_full _ _⟩
          · rw [if_neg (by simp [c2, c3])] at hsu
            simp [go_sem, h0', h4, h3, hv3, hh3, t1, t2, t4, hlt, c1, c2, c3, hws]
            exact ⟨L.length - (k + 1), by omega, k + 1, by omega, rfl, by simp, by rw [hsu]⟩
        · rw [if_neg (by simp [c1, c2])] at hsu
          simp [go_sem, h0', h4, h3, hv3, hh3, t1, t2, t4, hlt, c1, c2, hws]
          exact ⟨L.length - (k + 1), by omega, k + 1, by omega, rfl, by simp, by rw [hsu]⟩
    · have t4 : ¬ (k : Int) + 1 < L.length := by omega
      have hkl : L.length - 1 = k := by omega
      rw [hkl]
      simp [go_sem, h0', h4, h3, hv3, hh3, t4]
      refine PostR.ret ?_
      simp [go_sem]

end Go.Proofs.Ytckoolpjphhfdaa

-- part R10
namespace Go.Proofs.Ytckoolpjphhfdaa
open Go Go.Abs Go.Proofs
set_option linter.unusedSimpArgs false
set_option linter.unusedVariables false
theorem bl_asymm {a b : Bytes} (h : Op.bytesLess a b = true) : Op.bytesLess b a = false := by
  cases hh : Op.bytesLess b a with
  | false => rfl
  | true => have := bl_trans _ _ _ h hh; rw [bl_irrefl] at this; cases this
theorem insT_at {t : Bytes} : ∀ {T : List Bytes} {k : Nat}, k ≤ T.length → (∀ j y, j < k → T[j]? = some y → Op.bytesLess y t = true) → (∀ y, T[k]? = some y → Op.bytesLess y t = false ∧ ¬ y = t) → insT t T = T.take k ++ t :: T.drop k
  | [], k, hk, _, _ => by simp at hk; subst hk; rfl
  | x :: T, 0, _, _, he => by
    obtain ⟨h1, h2⟩ := he x rfl
    have h3 : Op.bytesLess t x = true := by
      cases hh : Op.bytesLess t x with
      | true => rfl
      | false => exact absurd (bl_total _ _ h1 hh) h2
    unfold insT
    rw [if_pos h3]; rfl
  | x :: T, k + 1, hk, hlt, he => by
    have hx := hlt 0 x (by omega) rfl
    have h1 := bl_asymm hx
    have h2 : ¬ t = x := fun h => by subst h; rw [bl_irrefl] at hx; cases hx
    unfold insT
    rw [if_neg (by rw [h1]; simp), if_neg h2, insT_at (T := T) (k := k) (by simpa using hk) (fun j y hj hy => hlt (j + 1) y (by omega) (by simpa using hy)) (fun y hy => he y (by simpa using hy))]
    rfl
theorem insT_old {t : Bytes} : ∀ {T : List Bytes} {k : Nat}, (∀ j y, j < k → T[j]? = some y → Op.bytesLess y t = true) → T[k]? = some t → insT t T = T
  | [], k, _, h => by simp at h
  | x :: T, 0, _, h => by
    simp at h; subst h
    unfold insT
    rw [bl_irrefl]; simp
  | x :: T, k + 1, hlt, h => by
    have hx := hlt 0 x (by omega) rfl
    have h1 := bl_asymm hx
    have h2 : ¬ t = x := fun h => by subst h; rw [bl_irrefl] at hx; cases hx
    unfold insT
    rw [if_neg (by rw [h1]; simp), if_neg h2, insT_old (T := T) (k := k) (fun j y hj hy => hlt (j + 1) y (by omega) (by simpa using hy)) (by simpa using h)]
theorem texts_snoc (D : Pairs) (p : Bytes × Bytes) : textsL (D ++ [p]) = insT p.1 (textsL D) := by unfold textsL; rw [List.foldl_append]; rfl
theorem cntAV_other {D : Pairs} {p : Bytes × Bytes} {t : Bytes} (h : ¬ p.1 = t) : cntAV (D ++ [p]) t = cntAV D t := by unfold cntAV; rw [cnt_snoc, if_neg h]
theorem cntAV_same (D : Pairs) (p : Bytes × Bytes) : cntAV (D ++ [p]) p.1 = .agg [S p.1, I ((cnt D p.1 : Nat) + 1 : Int)] := by unfold cntAV; rw [cnt_snoc, if_pos rfl]; rfl
theorem reactL_len (D : Pairs) : (reactL D).length = (textsL D).length := List.length_map ..
/-- A text that is there already is counted once more. -/
theorem reactL_old {D : Pairs} {p : Bytes × Bytes} {k : Nat} (hlt : ∀ j y, j < k → (textsL D)[j]? = some y → Op.bytesLess y p.1 = true) (h : (textsL D)[k]? = some p.1) : reactL (D ++ [p]) = (reactL D).set k (.agg [S p.1, I ((cnt D p.1 : Nat) + 1 : Int)]) := by
  have hk := (List.getElem?_eq_some_iff.1 h).1
  unfold reactL
  rw [texts_snoc, insT_old hlt h]
  apply List.ext_getElem
  · simp
  · intro i h1 h2
    rw [List.getElem_map, List.getElem_set]
    by_cases hi : k = i
    · subst hi
      have : (textsL D)[k] = p.1 := (List.getElem?_eq_some_iff.1 h).2
      rw [if_pos rfl, this, cntAV_same]
    · rw [if_neg hi, List.getElem_map]
      refine cntAV_other fun he => hi ?_
      have hs := (textsL_spec D).1
      have hi' : i < (textsL D).length := by simpa using h1
      have hkk : (textsL D)[k] = p.1 := (List.getElem?_eq_some_iff.1 h).2
      rcases Nat.lt_trichotomy k i with g | g | g
      · have := List.pairwise_iff_getElem.1 hs k i hk hi' g
        unfold LtB at this
        rw [hkk, he, bl_irrefl] at this; cases this
      · exact g
      · have := List.pairwise_iff_getElem.1 hs i k hi' hk g
        unfold LtB at this
        rw [hkk, ← he, bl_irrefl] at this; cases this
/-- A new text is put in its place. -/
theorem reactL_new {D : Pairs} {p : Bytes × Bytes} {k : Nat} (hk : k ≤ (textsL D).length) (hlt : ∀ j y, j < k → (textsL D)[j]? = some y → Op.bytesLess y p.1 = true) (h : ∀ y, (textsL D)[k]? = some y → Op.bytesLess y p.1 = false ∧ ¬ y = p.1) :
    cnt D p.1 = 0 ∧ reactL (D ++ [p]) = (reactL D).take k ++ .agg [S p.1, I 1] :: (reactL D).drop k := by
  have hins := insT_at hk hlt h
  have hs := (textsL_spec (D ++ [p])).1
  rw [texts_snoc, hins] at hs
  have hnot : ∀ t ∈ (textsL D).take k ++ (textsL D).drop k, ¬ p.1 = t := by
    have := List.pairwise_append.1 hs
    have h2 := List.pairwise_cons.1 this.2.1
    intro t ht he
    subst he
    rcases List.mem_append.1 ht with ht | ht
    · have := this.2.2 _ ht _ (List.mem_cons_self ..)
      unfold LtB at this; rw [bl_irrefl] at this; cases this
    · have := h2.1 _ ht
      unfold LtB at this; rw [bl_irrefl] at this; cases this
  have hc : cnt D p.1 = 0 := by
    cases hz : cnt D p.1 with
    | zero => rfl
    | succ n =>
      have hm : p.1 ∈ textsL D := ((textsL_spec D).2 _).2 (cnt_pos.1 (by omega))
      rw [← List.take_append_drop k (textsL D)] at hm
      exact absurd rfl (hnot _ hm)
  refine ⟨hc, ?_⟩
  unfold reactL
  rw [texts_snoc, hins, List.map_append, List.map_cons, cntAV_same, hc, List.map_take, List.map_drop]
  congr 1
  · rw [← List.map_take, ← List.map_take]
    exact List.map_congr_left fun t ht => cntAV_other (hnot t (List.mem_append.2 (.inl ht)))
  · congr 1
    rw [← List.map_drop, ← List.map_drop]
    exact List.map_congr_left fun t ht => cntAV_other (hnot t (List.mem_append.2 (.inr ht)))
def addP (D : Pairs) (e : Evt) : Pairs := if pairE e ∈ D then D else D ++ [pairE e]
def pairsR (L : List Evt) : Pairs := L.foldl addP []
theorem pairsR_succ {L : List Evt} {k : Nat} (hk : k < L.length) : pairsR (L.take (k + 1)) = addP (pairsR (L.take k)) L[k] := by
  unfold pairsR; rw [List.take_succ_eq_append_getElem hk, List.foldl_append]; rfl
theorem mem_pairsR : ∀ (L : List Evt) {p : Bytes × Bytes}, p ∈ pairsR L ↔ ∃ e ∈ L, pairE e = p := by
  intro L p
  unfold pairsR
  suffices ∀ (L : List Evt) (D : Pairs), p ∈ L.foldl addP D ↔ p ∈ D ∨ ∃ e ∈ L, pairE e = p from by simpa using this L []
  intro L
  induction L with
  | nil => intro D; simp
  | cons x L ih =>
    intro D
    rw [List.foldl_cons, ih]
    have : p ∈ addP D x ↔ p ∈ D ∨ pairE x = p := by
      unfold addP
      split
      · rename_i h
        exact ⟨.inl, fun g => g.elim id fun g => g ▸ h⟩
      · rw [List.mem_append, List.mem_singleton, @eq_comm _ p]
    rw [this]
    simp only [List.mem_cons, exists_eq_or_imp, or_assoc]
theorem pairs_rel (id : Int) (K : List Evt) : pairsL id K = pairsR (relL K 4 id) := by
  unfold pairsL pairsR relL
  suffices ∀ (K : List Evt) (D : Pairs), K.foldl (pairStep id) D = (K.filter (isRel 4 id)).foldl addP D from this K []
  intro K
  induction K with
  | nil => intro D; rfl
  | cons e K ih =>
    intro D
    rw [List.foldl_cons, ih, List.filter_cons]
    have hrr : isReact id e = isRel 4 id e := rfl
    unfold pairStep
    rw [hrr]
    cases h : isRel 4 id e with
    | true =>
      rw [if_pos rfl, List.foldl_cons]
      congr 1
      unfold addP
      by_cases hm : pairE e ∈ D
      · rw [if_neg (fun g => g.2 hm), if_pos hm]
      · rw [if_pos ⟨rfl, hm⟩, if_neg hm]
    | false =>
      rw [if_neg (by simp), if_neg (by simp)]
end Go.Proofs.Ytckoolpjphhfdaa

-- part R11
namespace Go.Proofs.Ytckoolpjphhfdaa
open Go Go.Abs Go.Proofs
set_option linter.unusedSimpArgs false
set_option linter.unusedVariables false
def Again (L : List Evt) (p : Bytes × Bytes) (k : Nat) (b : Bool) : Prop := b = true ↔ ∃ (j : Nat) (hj : j < L.length), j < k ∧ pairE L[j] = p
theorem Again.zero (L : List Evt) (p : Bytes × Bytes) : Again L p 0 false := by
  unfold Again
  constructor
  · intro h; cases h
  · rintro ⟨j, _, h, _⟩; omega
theorem Again.hit {L : List Evt} {p : Bytes × Bytes} {k : Nat} {b : Bool} (h : Again L p k b) (hk : k < L.length) (he : pairE L[k] = p) : Again L p (k + 1) true := ⟨fun _ => ⟨k, hk, by omega, he⟩, fun _ => rfl⟩
theorem Again.skip {L : List Evt} {p : Bytes × Bytes} {k : Nat} {b : Bool} (h : Again L p k b) (hk : k < L.length) (he : ¬ pairE L[k] = p) : Again L p (k + 1) b := by
  unfold Again at *
  rw [h]
  constructor
  · rintro ⟨j, h1, h2, h3⟩; exact ⟨j, h1, by omega, h3⟩
  · rintro ⟨j, h1, h2, h3⟩
    refine ⟨j, h1, ?_, h3⟩
    rcases Nat.lt_succ_iff_lt_or_eq.1 h2 with g | g
    · exact g
    · subst g; exact absurd h3 he
theorem Again.skip2 {L : List Evt} {p : Bytes × Bytes} {k : Nat} {b : Bool} (h : Again L p k b) (hk : k < L.length) (he : ¬ pairE L[k] = p) : (b = false ∧ Again L p (k + 1) false) ∨ (b = true ∧ Again L p (k + 1) true) := by
  have := h.skip hk he
  cases b with
  | false => exact .inl ⟨rfl, this⟩
  | true => exact .inr ⟨rfl, this⟩
theorem pairsR_len (L : List Evt) : (pairsR L).length ≤ L.length := by
  unfold pairsR
  suffices ∀ (L : List Evt) (D : Pairs), (L.foldl addP D).length ≤ D.length + L.length from by simpa using this L []
  intro L
  induction L with
  | nil => intro D; simp
  | cons e L ih =>
    intro D
    have h := ih (addP D e)
    have : (addP D e).length ≤ D.length + 1 := by unfold addP; split <;> simp
    simp only [List.foldl_cons, List.length_cons]; omega
theorem textsL_len (D : Pairs) : (textsL D).length ≤ D.length := by
  have h := textsL_spec D
  have irr : ∀ x, ¬ LtB x x := fun x hx => by unfold LtB at hx; rw [bl_irrefl] at hx; cases hx
  exact texts_len D (h.1.imp fun {x y} (hxy : LtB x y) (he : x = y) => irr y (he ▸ hxy)) fun t ht => (h.2 t).1 ht
theorem reactL_get {D : Pairs} {q : Nat} (h : q < (textsL D).length) : (reactL D)[q]'(by rw [reactL_len]; exact h) = .agg [S (textsL D)[q], I (cnt D (textsL D)[q])] := by unfold reactL; rw [List.getElem_map]; rfl
theorem okAll_react (st : St) (D : Pairs) : okAll st (reactL D) := fun c hc => by obtain ⟨t, _, rfl⟩ := List.mem_map.1 hc; rfl
theorem okAll_rt (st : St) (D : Pairs) (k n : Nat) : okAll st (List.take n (List.drop k (reactL D))) := fun c hc => okAll_react st D c (List.mem_of_mem_drop (List.mem_of_mem_take hc))
def OutAt (s : St) (rows : List AV) : Prop := ∃ id v, (id = 10 ∨ id = 100) ∧ s.σ 3 = .ref id v ∧ s.ver id = v ∧ s.h id = .arr 58 2 rows
set_option maxRecDepth 8000 in
set_option maxHeartbeats 4000000 in
theorem rreactions_ac (L : List Evt) (hsz : L.length ≤ 100000) : AC Try.prog 34 [evs L] (reactAV (pairsR L)) := by
  refine AC.of_body Try.func34 rfl rfl Try.ntmps34 (congrArg Array.toList Try.results34) (by simp) (pures1 (pure_evs _)) (pure_reactAV _) fun w S' => AWp.of_vc [10] ?_
  have hm : L.length ≤ maxLen := by unfold maxLen; omega
  simp [go_sem]
  refine AWp.loop_vc [88] (fun m s => ∃ i : Nat, i ≤ L.length ∧ m = L.length - i ∧ s.σ 0 = evs L ∧ s.σ 4 = I i ∧ OutAt s (reactL (pairsR (L.take i)))) L.length ⟨0, by omega, by omega, by simp [go_sem], by simp [go_sem], ⟨10, 1, .inl rfl, by simp [go_sem], by simp [go_sem], by simp [go_sem, pairsR, reactL, textsL]⟩⟩ ?_
  rintro m s ⟨i, hi, rfl, h0, h4, id, v, hid, h3, hv, hh⟩
  by_cases hlt : i < L.length
  · have hsu := pairsR_succ hlt
    have hmem := fun p => @mem_pairsR (L.take i) p
    have hDl := pairsR_len (L.take i)
    rw [List.length_take] at hDl
    generalize pairsR (L.take i) = D at hh hsu hmem hDl
    rcases hid with rfl | rfl
    · have hv' := hv
      simp [go_sem, h0, h4, h3, hv, hh, hlt]
      refine AWp.loop_vc [] (fun m t => ∃ (k : Nat) (b : Bool), k ≤ i ∧ m = i - k ∧ t.σ 0 = evs L ∧ t.σ 4 = I i ∧ t.σ 5 = S L[i].content.text ∧ t.σ 7 = I k ∧ t.σ 6 = B b ∧ Again L (pairE L[i]) k b ∧ t.σ 3 = .ref 10 v ∧ t.ver 10 = v ∧ t.h 10 = .arr 58 2 (reactL D)) i ⟨0, false, by omega, by omega, by simp [go_sem, h0], by simp [go_sem, h4], by simp [go_sem], by simp [go_sem], by simp [go_sem], Again.zero _ _, by simp [go_sem, h3], by simp [go_sem, hv], by simp [go_sem, hh]⟩ ?_
      clear h0 h4 h3 hv' hv hh
      rintro m t ⟨k, b, hk, rfl, h0, h4, h5, h7, h6, hb, h3, hv, hh⟩
      by_cases hki : k < i
      · have hkl : k < L.length := by omega
        simp [go_sem, h0, h4, h5, h7, h6, h3, hv, hh, hki]
        refine AWp.drawAll rfl (by kernel_rfl) ?_
        have hwk : IntKind.i64.wrap ((k : Int) + 1) = (k : Int) + 1 := wrap_i64 (by omega) (by omega)
        by_cases c1 : L[k].content.text = L[i].content.text
        · by_cases c2 : L[k].sender = L[i].sender
          · simp [go_sem, h0, h4, h5, h7, h6, h3, hv, hh, hki, hkl, hlt, c1, c2, hwk]
            exact ⟨i - (k + 1), by omega, k + 1, by omega, rfl, rfl, hb.hit hkl (by unfold pairE; rw [c1, c2])⟩
          · simp [go_sem, h0, h4, h5, h7, h6, h3, hv, hh, hki, hkl, hlt, c1, c2, hwk]
            exact ⟨i - (k + 1), by omega, k + 1, by omega, rfl, rfl, hb.skip2 hkl (fun h => c2 (congrArg Prod.snd h))⟩
        · simp [go_sem, h0, h4, h5, h7, h6, h3, hv, hh, hki, hkl, hlt, c1, hwk]
          exact ⟨i - (k + 1), by omega, k + 1, by omega, rfl, rfl, hb.skip2 hkl (fun h => c1 (congrArg Prod.fst h))⟩
      · obtain rfl : k = i := by omega
        have hbD : b = true ↔ pairE L[k] ∈ D := by
          unfold Again at hb
          rw [hb, hmem]
          constructor
          · rintro ⟨j, hj, hjk, he⟩
            exact ⟨L[j], List.mem_take_iff_getElem.2 ⟨j, by omega, rfl⟩, he⟩
          · rintro ⟨x, hx, he⟩
            obtain ⟨j, hj, rfl⟩ := List.mem_take_iff_getElem.1 hx
            exact ⟨j, by omega, by omega, he⟩
        have hwk : IntKind.i64.wrap ((k : Int) + 1) = (k : Int) + 1 := wrap_i64 (by omega) (by omega)
        unfold addP at hsu
        cases hbb : b with
        | true =>
          subst hbb
          rw [if_pos (hbD.1 rfl)] at hsu
          simp [go_sem, h0, h4, h5, h7, h6, h3, hv, hh, hwk]
          exact ⟨L.length - (k + 1), by omega, k + 1, by omega, rfl, rfl, by rw [hsu]; exact ⟨10, v, by simp, by simp [go_sem, h3], by simp [go_sem, hv], by simp [go_sem, hh]⟩⟩
        | false =>
          subst hbb
          rw [if_neg (fun h => by have := hbD.2 h; cases this)] at hsu
          have hts := (textsL_spec D).1
          have hRl := reactL_len D
          have hTm : (textsL D).length ≤ 100000 := by have := textsL_len D; omega
          simp [go_sem, h0, h4, h5, h7, h6, h3, hv, hh]
          refine AWp.loop_vc [] (fun m u => ∃ q : Nat, q ≤ (textsL D).length ∧ m = (textsL D).length - q ∧ u.σ 0 = evs L ∧ u.σ 4 = I k ∧ u.σ 5 = S L[k].content.text ∧ u.σ 8 = I q ∧ (∀ j y, j < q → (textsL D)[j]? = some y → Op.bytesLess y (pairE L[k]).1 = true) ∧ u.σ 3 = .ref 10 v ∧ u.ver 10 = v ∧ u.h 10 = .arr 58 2 (reactL D)) (textsL D).length ⟨0, by omega, by omega, by simp [go_sem, h0], by simp [go_sem, h4], by simp [go_sem, h5], by simp [go_sem], fun j y hj => by omega, by simp [go_sem, h3], by simp [go_sem, hv], by simp [go_sem, hh]⟩ ?_
          clear h0 h4 h5 h7 h6 h3 hv hh
          rintro m u ⟨q, hq, rfl, h0, h4, h5, h8, hbel, h3, hv, hh⟩
          have hRlen : (reactL D).length ≤ 100000 := by omega
          have hwq : IntKind.i64.wrap ((q : Int) + 1) = (q : Int) + 1 := wrap_i64 (by omega) (by omega)
          have hqR : q ≤ (reactL D).length := by omega
          by_cases hql : q < (textsL D).length
          · have hq1 : q < (reactL D).length := by omega
            have hRq := reactL_get hql
            have hTq : (textsL D)[q]? = some (textsL D)[q] := List.getElem?_eq_getElem hql
            have hcl := cnt_le D (textsL D)[q]
            generalize (textsL D)[q] = y at hRq hTq hcl
            have hwc : IntKind.i64.wrap ((cnt D y : Int) + 1) = (cnt D y : Int) + 1 := wrap_i64 (by omega) (by omega)
            cases hlt2 : Op.bytesLess y L[k].content.text with
            | true =>
              simp [go_sem, h0, h4, h5, h8, h3, hv, hh, hq1, hRq, hlt2, hwq]
              refine ⟨(textsL D).length - (q + 1), by omega, q + 1, by omega, rfl, rfl, fun j z hj hz => ?_⟩
              rcases Nat.lt_succ_iff_lt_or_eq.1 hj with g | g
              · exact hbel j z g hz
              · subst g; rw [hTq] at hz; cases hz; exact hlt2
            | false =>
              by_cases hy : y = L[k].content.text
              · have hold := reactL_old (D := D) (p := pairE L[k]) hbel (by rw [hTq, hy]; rfl)
                subst hy
                simp [go_sem, h0, h4, h5, h8, h3, hv, hh, hq1, hRq, hlt2, hwc, hwk]
                refine ⟨L.length - (k + 1), by omega, k + 1, by omega, rfl, rfl, ?_⟩
                rw [hsu, hold]
                exact ⟨10, v, by simp, by simp [go_sem, h3], by simp [go_sem, hv], by first | (simp [go_sem, hh]; done) | (simp [go_sem, hh]; rfl)⟩
              · have hnew := reactL_new (D := D) (p := pairE L[k]) hq hbel (fun z hz => by rw [hTq] at hz; cases hz; exact ⟨hlt2, hy⟩)
                have hy2 : (y == L[k].content.text) = false := by simpa using hy
                simp [go_sem, h0, h4, h5, h8, h3, hv, hh, hq1, hRq, hlt2, hy, hy2, hqR, hwk, okAll_rt]
                refine ⟨⟨by omega, by omega⟩, ⟨by omega, by omega⟩, ⟨by omega, by omega⟩, L.length - (k + 1), by omega, k + 1, by omega, rfl, rfl, ?_⟩
                have htk : List.take ((reactL D).length - q) (List.drop q (reactL D)) = List.drop q (reactL D) := List.take_of_length_le (by simp)
                rw [hsu, hnew.2]
                exact ⟨100, _, .inr rfl, by simp [go_sem]; rfl, by simp [go_sem, hv], by first | (simp [go_sem, htk]; done) | (simp [go_sem, htk]; rfl)⟩
          · have hq1 : ¬ q < (reactL D).length := by omega
            have hnew := reactL_new (D := D) (p := pairE L[k]) hq hbel (fun z hz => by rw [List.getElem?_eq_none (by omega)] at hz; cases hz)
            simp [go_sem, h0, h4, h5, h8, h3, hv, hh, hq1, hqR, hwk, okAll_rt]
            refine ⟨⟨by omega, by omega⟩, ⟨by omega, by omega⟩, ⟨by omega, by omega⟩, L.length - (k + 1), by omega, k + 1, by omega, rfl, rfl, ?_⟩
            have htk : List.take ((reactL D).length - q) (List.drop q (reactL D)) = List.drop q (reactL D) := List.take_of_length_le (by simp)
            rw [hsu, hnew.2]
            exact ⟨100, _, .inr rfl, by simp [go_sem]; rfl, by simp [go_sem, hv], by first | (simp [go_sem, htk]; done) | (simp [go_sem, htk]; rfl)⟩
    · have hv' := hv
      simp [go_sem, h0, h4, h3, hv, hh, hlt]
      refine AWp.loop_vc [] (fun m t => ∃ (k : Nat) (b : Bool), k ≤ i ∧ m = i - k ∧ t.σ 0 = evs L ∧ t.σ 4 = I i ∧ t.σ 5 = S L[i].content.text ∧ t.σ 7 = I k ∧ t.σ 6 = B b ∧ Again L (pairE L[i]) k b ∧ t.σ 3 = .ref 100 v ∧ t.ver 100 = v ∧ t.h 100 = .arr 58 2 (reactL D)) i ⟨0, false, by omega, by omega, by simp [go_sem, h0], by simp [go_sem, h4], by simp [go_sem], by simp [go_sem], by simp [go_sem], Again.zero _ _, by simp [go_sem, h3], by simp [go_sem, hv], by simp [go_sem, hh]⟩ ?_
      clear h0 h4 h3 hv' hv hh
      rintro m t ⟨k, b, hk, rfl, h0, h4, h5, h7, h6, hb, h3, hv, hh⟩
      by_cases hki : k < i
      · have hkl : k < L.length := by omega
        simp [go_sem, h0, h4, h5, h7, h6, h3, hv, hh, hki]
        refine AWp.drawAll rfl (by kernel_rfl) ?_
        have hwk : IntKind.i64.wrap ((k : Int) + 1) = (k : Int) + 1 := wrap_i64 (by omega) (by omega)
        by_cases c1 : L[k].content.text = L[i].content.text
        · by_cases c2 : L[k].sender = L[i].sender
          · simp [go_sem, h0, h4, h5, h7, h6, h3, hv, hh, hki, hkl, hlt, c1, c2, hwk]
            exact ⟨i - (k + 1), by omega, k + 1, by omega, rfl, rfl, hb.hit hkl (by unfold pairE; rw [c1, c2])⟩
          · simp [go_sem, h0, h4, h5, h7, h6, h3, hv, hh, hki, hkl, hlt, c1, c2, hwk]
            exact ⟨i - (k + 1), by omega, k + 1, by omega, rfl, rfl, hb.skip2 hkl (fun h => c2 (congrArg Prod.snd h))⟩
        · simp [go_sem, h0, h4, h5, h7, h6, h3, hv, hh, hki, hkl, hlt, c1, hwk]
          exact ⟨i - (k + 1), by omega, k + 1, by omega, rfl, rfl, hb.skip2 hkl (fun h => c1 (congrArg Prod.fst h))⟩
      · obtain rfl : k = i := by omega
        have hbD : b = true ↔ pairE L[k] ∈ D := by
          unfold Again at hb
          rw [hb, hmem]
          constructor
          · rintro ⟨j, hj, hjk, he⟩
            exact ⟨L[j], List.mem_take_iff_getElem.2 ⟨j, by omega, rfl⟩, he⟩
          · rintro ⟨x, hx, he⟩
            obtain ⟨j, hj, rfl⟩ := List.mem_take_iff_getElem.1 hx
            exact ⟨j, by omega, by omega, he⟩
        have hwk : IntKind.i64.wrap ((k : Int) + 1) = (k : Int) + 1 := wrap_i64 (by omega) (by omega)
        unfold addP at hsu
        cases hbb : b with
        | true =>
          subst hbb
          rw [if_pos (hbD.1 rfl)] at hsu
          simp [go_sem, h0, h4, h5, h7, h6, h3, hv, hh, hwk]
          exact ⟨L.length - (k + 1), by omega, k + 1, by omega, rfl, rfl, by rw [hsu]; exact ⟨100, v, by simp, by simp [go_sem, h3], by simp [go_sem, hv], by simp [go_sem, hh]⟩⟩
        | false =>
          subst hbb
          rw [if_neg (fun h => by have := hbD.2 h; cases this)] at hsu
          have hts := (textsL_spec D).1
          have hRl := reactL_len D
          have hTm : (textsL D).length ≤ 100000 := by have := textsL_len D; omega
          simp [go_sem, h0, h4, h5, h7, h6, h3, hv, hh]
          refine AWp.loop_vc [] (fun m u => ∃ q : Nat, q ≤ (textsL D).length ∧ m = (textsL D).length - q ∧ u.σ 0 = evs L ∧ u.σ 4 = I k ∧ u.σ 5 = S L[k].content.text ∧ u.σ 8 = I q ∧ (∀ j y, j < q → (textsL D)[j]? = some y → Op.bytesLess y (pairE L[k]).1 = true) ∧ u.σ 3 = .ref 100 v ∧ u.ver 100 = v ∧ u.h 100 = .arr 58 2 (reactL D)) (textsL D).length ⟨0, by omega, by omega, by simp [go_sem, h0], by simp [go_sem, h4], by simp [go_sem, h5], by simp [go_sem], fun j y hj => by omega, by simp [go_sem, h3], by simp [go_sem, hv], by simp [go_sem, hh]⟩ ?_
          clear h0 h4 h5 h7 h6 h3 hv hh
          rintro m u ⟨q, hq, rfl, h0, h4, h5, h8, hbel, h3, hv, hh⟩
          have hRlen : (reactL D).length ≤ 100000 := by omega
          have hwq : IntKind.i64.wrap ((q : Int) + 1) = (q : Int) + 1 := wrap_i64 (by omega) (by omega)
          have hqR : q ≤ (reactL D).length := by omega
          by_cases hql : q < (textsL D).length
          · have hq1 : q < (reactL D).length := by omega
            have hRq := reactL_get hql
            have hTq : (textsL D)[q]? = some (textsL D)[q] := List.getElem?_eq_getElem hql
            have hcl := cnt_le D (textsL D)[q]
            generalize (textsL D)[q] = y at hRq hTq hcl
            have hwc : IntKind.i64.wrap ((cnt D y : Int) + 1) = (cnt D y : Int) + 1 := wrap_i64 (by omega) (by omega)
            cases hlt2 : Op.bytesLess y L[k].content.text with
            | true =>
              simp [go_sem, h0, h4, h5, h8, h3, hv, hh, hq1, hRq, hlt2, hwq]
              refine ⟨(textsL D).length - (q + 1), by omega, q + 1, by omega, rfl, rfl, fun j z hj hz => ?_⟩
              rcases Nat.lt_succ_iff_lt_or_eq.1 hj with g | g
              · exact hbel j z g hz
              · subst g; rw [hTq] at hz; cases hz; exact hlt2
            | false =>
              by_cases hy : y = L[k].content.text
              · have hold := reactL_old (D := D) (p := pairE L[k]) hbel (by rw [hTq, hy]; rfl)
                subst hy
                simp [go_sem, h0, h4, h5, h8, h3, hv, hh, hq1, hRq, hlt2, hwc, hwk]
                refine ⟨L.length - (k + 1), by omega, k + 1, by omega, rfl, rfl, ?_⟩
                rw [hsu, hold]
                exact ⟨100, v, by simp, by simp [go_sem, h3], by simp [go_sem, hv], by first | (simp [go_sem, hh]; done) | (simp [go_sem, hh]; rfl)⟩
              · have hnew := reactL_new (D := D) (p := pairE L[k]) hq hbel (fun z hz => by rw [hTq] at hz; cases hz; exact ⟨hlt2, hy⟩)
                have hy2 : (y == L[k].content.text) = false := by simpa using hy
                simp [go_sem, h0, h4, h5, h8, h3, hv, hh, hq1, hRq, hlt2, hy, hy2, hqR, hwk, okAll_rt]
                refine ⟨⟨by omega, by omega⟩, ⟨by omega, by omega⟩, ⟨by omega, by omega⟩, L.length - (k + 1), by omega, k + 1, by omega, rfl, rfl, ?_⟩
                have htk : List.take ((reactL D).length - q) (List.drop q (reactL D)) = List.drop q (reactL D) := List.take_of_length_le (by simp)
                rw [hsu, hnew.2]
                exact ⟨100, _, .inr rfl, by simp [go_sem]; rfl, by simp [go_sem, hv], by first | (simp [go_sem, htk]; done) | (simp [go_sem, htk]; rfl)⟩
          · have hq1 : ¬ q < (reactL D).length := by omega
            have hnew := reactL_new (D := D) (p := pairE L[k]) hq hbel (fun z hz => by rw [List.getElem?_eq_none (by omega)] at hz; cases hz)
            simp [go_sem, h0, h4, h5, h8, h3, hv, hh, hq1, hqR, hwk, okAll_rt]
            refine ⟨⟨by omega, by omega⟩, ⟨by omega, by omega⟩, ⟨by omega, by omega⟩, L.length - (k + 1), by omega, k + 1, by omega, rfl, rfl, ?_⟩
            have htk : List.take ((reactL D).length - q) (List.drop q (reactL D)) = List.drop q (reactL D) := List.take_of_length_le (by simp)
            rw [hsu, hnew.2]
            exact ⟨100, _, .inr rfl, by simp [go_sem]; rfl, by simp [go_sem, hv], by first | (simp [go_sem, htk]; done) | (simp [go_sem, htk]; rfl)⟩
  · obtain rfl : i = L.length := by omega
    rw [List.take_of_length_le (Nat.le_refl _)] at hh
    rcases hid with rfl | rfl
    · simp [go_sem, h0, h4, h3, hv, hh]
      refine PostR.retW [10] ?_ (.refl _)
      simp [go_sem, h3, hv, hh]
    · simp [go_sem, h0, h4, h3, hv, hh]
      refine PostR.retW [100] ?_ (.refl _)
      simp [go_sem, h3, hv, hh]

end Go.Proofs.Ytckoolpjphhfdaa

-- part R12
namespace Go.Proofs.Ytckoolpjphhfdaa
open Go Go.Abs Go.Proofs
set_option linter.unusedSimpArgs false
set_option linter.unusedVariables false
def uA : Bytes := [64, 97, 58, 115]
def uB : Bytes := [64, 98, 58, 115]
def uC : Bytes := [64, 99, 58, 115]
def ex36 : List Evt := [
  { evZ with id := 1, sender := uA, kind := 11, content := { evZ.content with text := [111, 110, 101] } },
  { evZ with id := 2, sender := uA, kind := 13, content := { evZ.content with text := [116, 119, 111], target := 1 } },
  { evZ with id := 3, sender := uB, kind := 13, content := { evZ.content with text := [116, 104, 114, 101, 101], target := 1 } },
  { evZ with id := 4, sender := uB, kind := 12, content := { evZ.content with text := [43], target := 1 } },
  { evZ with id := 5, sender := uC, kind := 12, content := { evZ.content with text := [43], target := 1 } },
  { evZ with id := 6, sender := uC, kind := 11, content := { evZ.content with text := [102, 111, 117, 114], target := 1, thread := true } }]
theorem ex36_once : onceL ex36 = ex36 := by rfl
theorem ex36_sum : (sumOf ex36 1).edit = 2 ∧ (sumOf ex36 1).thread = 1 ∧ (sumOf ex36 1).last = 6 ∧ (sumOf ex36 1).pairs = [([43], uB), ([43], uC)] := by decide
theorem ex36_react : reactL [([43], uB), ([43], uC)] = [.agg [S [43], I 2]] := by rfl
theorem ex36_show : showOf ex36 1 = ([116, 119, 111], 0) := by decide
theorem ex36_threads : sortedL (threadsL (onceL ex36)) = [1] := by decide
def again36 : Evt := { evZ with id := 9, sender := uB, kind := 12, content := { evZ.content with text := [43], target := 1 } }
def wrong36 : Evt := { evZ with id := 9, sender := uB, kind := 12, content := { evZ.content with text := [43], target := 2 } }
theorem ex36_valid : validOf ex36 again36 = 4 ∧ validOf ex36 wrong36 = 1 := by decide
set_option maxRecDepth 8000 in
set_option maxHeartbeats 4000000 in
theorem sample36_ac  : AC Try.prog 27 [] (evs ex36) := by
  refine AC.of_body Try.func27 rfl rfl Try.ntmps27 (congrArg Array.toList Try.results27) (by simp) (pures0) (pure_evs _) fun w S' => AWp.of_vc [] ?_
  simp [go_sem]
  refine PostR.retW [] (r0 := .lst 29 (ex36.map fun x => .agg (evL x))) (by simp [go_sem]; rfl) ?_
  exact .one (.one (wk_evsL ex36))

end Go.Proofs.Ytckoolpjphhfdaa

-- part R13
namespace Go.Proofs.Ytckoolpjphhfdaa
open Go Go.Abs Go.Proofs
set_option linter.unusedSimpArgs false
set_option linter.unusedVariables false
theorem ex36_sumD : sumOf ex36 1 = ⟨2, [([43], uB), ([43], uC)], 1, 6⟩ := by
  have h := ex36_sum
  cases hs : sumOf ex36 1 with
  | mk a b c d => rw [hs] at h; obtain ⟨h1, h2, h3, h4⟩ := h; simp only at h1 h2 h3 h4; rw [h1, h2, h3, h4]
theorem ex36_sumAV : sumAV (sumOf ex36 1) = .agg [I 2, .lst 2 [.agg [S [43], I 2]], I 1, I 6] := by
  rw [ex36_sumD]
  show AV.agg [I 2, .lst 2 (reactL [([43], uB), ([43], uC)]), I 1, I 6] = _
  rw [ex36_react]
theorem ex36_5 : ex36[5]'(by decide) = { evZ with id := 6, sender := uC, kind := 11, content := { evZ.content with text := [102, 111, 117, 114], target := 1, thread := true } } := rfl
theorem ex36_rel5 : relE { evZ with id := 6, sender := uC, kind := 11, content := { evZ.content with text := [102, 111, 117, 114], target := 1, thread := true } } = (2, 1) := by decide
theorem relOf36_ac : AC Try.prog 10 [ev (ex36[5]'(by decide))] (.tup [I 2, I 1]) := by
  have h := relOf_ac (ex36[5]'(by decide))
  rw [ex36_5, ex36_rel5] at h
  rw [ex36_5]; exact h
theorem sum36_ac : AC Try.prog 15 [evs ex36, I 1] (.agg [I 2, .lst 2 [.agg [S [43], I 2]], I 1, I 6]) := by
  have h := sum_ac ex36 1 (by decide); rw [ex36_sumAV] at h; exact h
theorem show36_ac : AC Try.prog 17 [evs ex36, I 1] (.tup [S [116, 119, 111], I 0]) := by
  have h := show_ac ex36 1 (by decide); rw [ex36_show] at h; exact h
theorem valid36a_ac : AC Try.prog 22 [evs ex36, ev again36] (I 4) := by
  have h := valid_ac ex36 again36 (by decide); rw [ex36_valid.1] at h; exact h
theorem valid36b_ac : AC Try.prog 22 [evs ex36, ev wrong36] (I 1) := by
  have h := valid_ac ex36 wrong36 (by decide); rw [ex36_valid.2] at h; exact h
theorem threads36_ac : AC Try.prog 20 [evs ex36] (ints [1]) := by
  have h := threads_ac ex36 (by decide); rw [ex36_threads] at h; exact h
set_option maxRecDepth 8000 in
set_option maxHeartbeats 4000000 in
theorem lives36_ac  : AC Try.prog 12 [] (B true) := by
  refine AC.of_body Try.func12 rfl rfl Try.ntmps12 (congrArg Array.toList Try.results12) (by simp) (pures0) (pure_B _) fun w S' => AWp.of_vc [] ?_
  have hl6 : ex36.length = 6 := rfl
  simp [go_sem]
  refine CallSem.pure sample36_ac (by simp [go_sem]) ?_
  simp [go_sem]
  refine CallSem.pure sum36_ac (by simp [go_sem]) ?_
  simp [go_sem]
  refine CallSem.pure show36_ac (by simp [go_sem]) ?_
  simp [go_sem, hl6]
  refine CallSem.pure relOf36_ac (by simp [go_sem]) ?_
  simp [go_sem]
  refine CallSem.by valid36a_ac ⟨.refl _, .agg (wk_evL again36), trivial⟩ (by simp [go_sem]) ?_
  simp [go_sem]
  refine CallSem.by valid36b_ac ⟨.refl _, .agg (wk_evL wrong36), trivial⟩ (by simp [go_sem]) ?_
  simp [go_sem]
  refine CallSem.pure threads36_ac (by simp [go_sem]) ?_
  simp [go_sem]
  refine CallSem.pure (same_ac [1] [1]) (by simp [go_sem]) ?_
  simp [go_sem]
  refine PostR.ret ?_
  simp [go_sem]

set_option maxRecDepth 8000 in
set_option maxHeartbeats 4000000 in
theorem of36_law (e : Evt) : AC Try.prog 3 [ev e] (B true) := by
  refine AC.of_body Try.func3 rfl rfl Try.ntmps3 (congrArg Array.toList Try.results3) (by simp) (pures1 (pure_ev _)) (pure_B _) fun w S' => AWp.of_vc [] ?_
  simp [go_sem]
  refine CallSem.pure (relOf_ac e) (by simp [go_sem]) ?_
  simp [go_sem]
  refine CallSem.pure (rrel_ac e) (by simp [go_sem]) ?_
  simp [go_sem]
  refine CallSem.pure lives36_ac (by simp [go_sem]) ?_
  simp [go_sem]
  refine PostR.ret ?_
  simp [go_sem]

end Go.Proofs.Ytckoolpjphhfdaa

-- part R14
namespace Go.Proofs.Ytckoolpjphhfdaa
open Go Go.Abs Go.Proofs
set_option linter.unusedSimpArgs false
set_option linter.unusedVariables false
theorem sorted_snoc (T : List Int) (n : Int) : sortedL (T ++ [n]) = putL (sortedL T) n := by unfold sortedL; rw [List.foldl_append]; rfl
theorem sortedL_len2 (T : List Int) : (sortedL T).length ≤ T.length := by have := foldl_putL_len T []; simpa [sortedL] using this
set_option maxRecDepth 8000 in
set_option maxHeartbeats 4000000 in
theorem rthreads_ac (l : List Evt) (hsz : l.length ≤ 100000) : AC Try.prog 21 [evs l] (ints (sortedL (threadsL (onceL l)))) := by
  refine AC.of_body Try.func21 rfl rfl Try.ntmps21 (congrArg Array.toList Try.results21) (by simp) (pures1 (pure_evs _)) (pure_ints _) fun w S' => AWp.of_vc [] ?_
  have hol := onceL_len l
  simp [go_sem]
  refine CallSem.pure (once_ac l hsz) (by simp [go_sem]) ?_
  generalize onceL l = K at hol ⊢
  have hm : K.length ≤ maxLen := by unfold maxLen; omega
  simp [go_sem]
  refine AWp.loop_vc [] (fun m s => ∃ k : Nat, k ≤ K.length ∧ m = K.length - k ∧ s.σ 3 = evs K ∧ s.σ 5 = I k ∧ s.σ 4 = ints (sortedL (threadsL (K.take k)))) K.length ⟨0, by simp [go_sem, threadsL, sortedL]⟩ ?_
  rintro m s ⟨k, hk, rfl, h3, h5, h4⟩
  by_cases hlt : k < K.length
  · have hsu := threads_succ hlt
    have htl := threads_len (K.take k)
    rw [List.length_take] at htl
    generalize threadsL (K.take k) = T at h4 hsu htl
    have hsl := sortedL_len2 T
    simp [go_sem, h3, h5, h4, hlt]
    refine CallSem.pure (rrel_ac K[k]) (by simp [go_sem]) ?_
    by_cases hr : (relE K[k]).1 = 2
    · rw [if_pos hr] at hsu
      simp [go_sem, h3, h5, h4, hlt, hr]
      refine CallSem.pure (put_ac (sortedL T) (relE K[k]).2 (by omega)) (by simp [go_sem]) ?_
      simp [go_sem, h3, h5, h4, hlt, wrap_succ hlt hm]
      exact ⟨K.length - (k + 1), by omega, k + 1, by omega, rfl, rfl, by rw [hsu, sorted_snoc]⟩
    · rw [if_neg hr] at hsu
      simp [go_sem, h3, h5, h4, hlt, hr, wrap_succ hlt hm]
      exact ⟨K.length - (k + 1), by omega, k + 1, by omega, rfl, rfl, by rw [hsu]; simp⟩
  · obtain rfl : k = K.length := by omega
    rw [List.take_of_length_le (Nat.le_refl _)] at h4
    simp [go_sem, h3, h5, h4]
    refine PostR.ret ?_
    simp [go_sem]

end Go.Proofs.Ytckoolpjphhfdaa

-- part R15
namespace Go.Proofs.Ytckoolpjphhfdaa
open Go Go.Abs Go.Proofs
set_option linter.unusedSimpArgs false
set_option linter.unusedVariables false
def sameR (e o : Evt) : Bool := decide (¬ o.id = e.id ∧ o.sender = e.sender ∧ o.content.text = e.content.text)
def hasR (L : List Evt) (e : Evt) : Bool := (L.find? (sameR e)).isSome
theorem hasR_hit {L : List Evt} {e : Evt} {k : Nat} (hk : k < L.length) (h : sameR e L[k] = true) : hasR L e = true := by
  unfold hasR; rw [List.find?_isSome]; exact ⟨L[k], List.getElem_mem _, h⟩
theorem hasR_miss {L : List Evt} {e : Evt} (h : ∀ (j : Nat) x, L[j]? = some x → sameR e x = false) : hasR L e = false := by
  unfold hasR
  cases hf : L.find? (sameR e) with
  | none => rfl
  | some x =>
    have hx := List.find?_some hf
    obtain ⟨j, hj⟩ := List.mem_iff_getElem?.1 (List.mem_of_find?_eq_some hf)
    rw [h j x hj] at hx; cases hx
theorem below15 {α : Type} {L : List α} {p : α → Bool} {k : Nat} (hk : k < L.length) (hno : ∀ (j : Nat) x, j < k → L[j]? = some x → p x = false) (h : p L[k] = false) : ∀ (j : Nat) x, j < k + 1 → L[j]? = some x → p x = false := fun j x hj hx => by
  rcases Nat.lt_succ_iff_lt_or_eq.1 hj with g | g
  · exact hno j x g hx
  · subst g; rw [List.getElem?_eq_getElem hk] at hx; cases hx; exact h
def rvalidOf (l : List Evt) (e : Evt) : Int :=
  if (relE e).1 = 0 then 0 else match rget l (relE e).2 with
  | none => 5
  | some t => if ¬ t.kind = 11 ∨ ((relE e).1 = 2 ∧ (relE t).1 = 2) then 1 else if (relE e).1 = 3 ∧ ¬ e.sender = t.sender then 18 else if (relE e).1 = 4 ∧ hasR (relL (onceL l) 4 (relE e).2) e = true then 4 else 0
set_option maxRecDepth 8000 in
set_option maxHeartbeats 4000000 in
theorem rvalid_ac (l : List Evt) (e : Evt) (hsz : l.length ≤ 100000) : AC Try.prog 23 [evs l, ev e] (I (rvalidOf l e)) := by
  refine AC.of_body Try.func23 rfl rfl Try.ntmps23 (congrArg Array.toList Try.results23) (by simp) (pures2 (pure_evs _) (pure_ev _)) (pure_I _) fun w S' => AWp.of_vc [] ?_
  unfold rvalidOf
  simp [go_sem]
  refine CallSem.pure (rrel_ac e) (by simp [go_sem]) ?_
  by_cases h0 : (relE e).1 = 0
  · simp [go_sem, h0]
    refine PostR.ret ?_
    simp [go_sem]
  simp [go_sem, h0]
  refine CallSem.pure (rget36_ac l (relE e).2) (by simp [go_sem]) ?_
  cases hg : rget l (relE e).2 with
  | none =>
    simp [go_sem]
    refine PostR.ret ?_
    simp [go_sem]
  | some t =>
    simp [go_sem]
    refine CallSem.pure (rrel_ac t) (by simp [go_sem]) ?_
    by_cases h1 : t.kind = 11
    · by_cases h2 : (relE e).1 = 2
      · by_cases h3 : (relE t).1 = 2
        · simp [go_sem, h1, h2, h3]
          refine PostR.ret ?_
          simp [go_sem]
        · simp [go_sem, h1, h2, h3]
          refine PostR.ret ?_
          simp [go_sem]
      · by_cases h4 : (relE e).1 = 3
        · by_cases h5 : e.sender = t.sender
          · simp [go_sem, h1, h2, h4, h5]
            refine PostR.ret ?_
            simp [go_sem]
          · have h5' : (e.sender == t.sender) = false := by simpa using h5
            simp [go_sem, h1, h2, h4, h5, h5']
            refine PostR.ret ?_
            simp [go_sem]
        · by_cases h6 : (relE e).1 = 4
          · simp [go_sem, h1, h2, h4, h6]
            refine CallSem.pure (related_ac l 4 (relE e).2 hsz) (by simp [go_sem]) ?_
            have hrl := relL_len (onceL l) 4 (relE e).2
            have hol := onceL_len l
            generalize relL (onceL l) 4 (relE e).2 = R at hrl ⊢
            have hm : R.length ≤ maxLen := by unfold maxLen; omega
            simp [go_sem]
            refine AWp.loop_vc [] (fun m s => ∃ k : Nat, k ≤ R.length ∧ m = R.length - k ∧ s.σ 3 = .eptr (evc e) 0 ∧ s.σ 11 = evs R ∧ s.σ 12 = I k ∧ ∀ (j : Nat) x, j < k → R[j]? = some x → sameR e x = false) R.length ⟨0, by simp [go_sem]⟩ ?_
            rintro m s ⟨k, hk, rfl, h3, h11, h12, hno⟩
            by_cases hlt : k < R.length
            · simp [go_sem, h3, h11, h12, hlt]
              refine AWp.drawAll rfl (by kernel_rfl) ?_
              by_cases c1 : R[k].id = e.id
              · have hs : sameR e R[k] = false := by unfold sameR; simp [c1]
                simp [go_sem, h3, h11, h12, hlt, c1, wrap_succ hlt hm]
                exact ⟨R.length - (k + 1), by omega, k + 1, by omega, rfl, rfl, below15 hlt hno hs⟩
              · by_cases c2 : R[k].sender = e.sender
                · by_cases c3 : R[k].content.text = e.content.text
                  · have hs : sameR e R[k] = true := by unfold sameR; simp [c1, c2, c3]
                    simp [go_sem, h3, h11, h12, hlt, c1, c2, c3]
                    refine PostR.ret ?_
                    rw [hasR_hit hlt hs]
                    simp [go_sem]
                  · have hs : sameR e R[k] = false := by unfold sameR; simp [c3]
                    simp [go_sem, h3, h11, h12, hlt, c1, c2, c3, wrap_succ hlt hm]
                    exact ⟨R.length - (k + 1), by omega, k + 1, by omega, rfl, rfl, below15 hlt hno hs⟩
                · have hs : sameR e R[k] = false := by unfold sameR; simp [c2]
                  simp [go_sem, h3, h11, h12, hlt, c1, c2, wrap_succ hlt hm]
                  exact ⟨R.length - (k + 1), by omega, k + 1, by omega, rfl, rfl, below15 hlt hno hs⟩
            · simp [go_sem, h3, h11, h12, hlt]
              refine PostR.ret ?_
              rw [hasR_miss fun j x hj => hno j x (by have := (List.getElem?_eq_some_iff.1 hj).1; omega) hj]
              simp [go_sem]
          · simp [go_sem, h1, h2, h4, h6]
            refine PostR.ret ?_
            simp [go_sem]
    · simp [go_sem, h1]
      refine PostR.ret ?_
      simp [go_sem]

end Go.Proofs.Ytckoolpjphhfdaa

-- part R16
namespace Go.Proofs.Ytckoolpjphhfdaa
open Go Go.Abs Go.Proofs
set_option linter.unusedSimpArgs false
set_option linter.unusedVariables false
theorem getE_snoc (L : List Evt) (e : Evt) (n : Int) : getE (L ++ [e]) n = (getE L n).or (if e.id = n then some e else none) := by
  unfold getE
  rw [List.find?_append]
  congr 1
  by_cases h : e.id = n <;> simp [List.find?_cons, h]
theorem getE_onceU (l : List Evt) (n : Int) : ∀ k, k ≤ l.length → getE (onceU l k) n = if 0 < n then getE (l.take k) n else none
  | 0, _ => by simp [onceU, getE]
  | k + 1, hk => by
    have ih := getE_onceU l n k (by omega)
    have hlt : k < l.length := by omega
    rw [List.take_succ_eq_append_getElem hlt, getE_snoc]
    cases hn : isNew l k l[k] with
    | true =>
      rw [onceU_new hlt hn, getE_snoc, ih]
      unfold isNew at hn
      rw [Bool.and_eq_true, decide_eq_true_eq] at hn
      by_cases hp : 0 < n
      · rw [if_pos hp, if_pos hp]
      · rw [if_neg hp, if_neg hp, if_neg (fun h => hp (by omega))]; rfl
    | false =>
      rw [onceU_old hlt hn, ih]
      unfold isNew at hn
      by_cases hp : 0 < n
      · rw [if_pos hp, if_pos hp]
        by_cases he : l[k].id = n
        · rw [he] at hn
          cases hg : getE (l.take k) n with
          | none => rw [hg] at hn; simp [hp] at hn
          | some x => rfl
        · rw [if_neg he, Option.or_none]
      · rw [if_neg hp, if_neg hp]
theorem getE_once (l : List Evt) (n : Int) : getE (onceL l) n = rget l n := by
  unfold onceL rget
  rw [getE_onceU l n l.length (Nat.le_refl _), List.take_of_length_le (Nat.le_refl _)]
theorem same_rel {K : List Evt} {e : Evt} (h4 : (relE e).1 = 4) : hasSame K e = hasR (relL K 4 (relE e).2) e := by
  unfold hasSame hasR relL
  rw [Bool.eq_iff_iff, List.find?_isSome, List.find?_isSome]
  constructor
  · rintro ⟨o, ho, hs⟩
    unfold sameB at hs
    rw [decide_eq_true_eq] at hs
    obtain ⟨a, ⟨b, c⟩, d, f⟩ := hs
    exact ⟨o, List.mem_filter.2 ⟨ho, by unfold isRel; rw [decide_eq_true_eq]; exact ⟨by rw [b, h4], c⟩⟩, by unfold sameR; rw [decide_eq_true_eq]; exact ⟨a, d, f⟩⟩
  · rintro ⟨o, ho, hs⟩
    obtain ⟨ho, hr⟩ := List.mem_filter.1 ho
    unfold isRel at hr
    unfold sameR at hs
    rw [decide_eq_true_eq] at hr hs
    exact ⟨o, ho, by unfold sameB; rw [decide_eq_true_eq]; exact ⟨hs.1, ⟨by rw [hr.1, h4], hr.2⟩, hs.2.1, hs.2.2⟩⟩
theorem valid_eq (l : List Evt) (e : Evt) : validOf l e = rvalidOf l e := by
  unfold validOf rvalidOf
  rw [getE_once]
  by_cases h0 : (relE e).1 = 0
  · rw [if_pos h0, if_pos h0]
  · rw [if_neg h0, if_neg h0]
    cases rget l (relE e).2 with
    | none => rfl
    | some t =>
      simp only []
      by_cases h4 : (relE e).1 = 4
      · rw [same_rel h4]
        by_cases hs : e.sender = t.sender
        · simp [hs]
        · have hs' : ¬ t.sender = e.sender := fun h => hs h.symm
          simp [hs, hs']
      · have n4 : ∀ b : Prop, ¬ ((relE e).1 = 4 ∧ b) := fun b h => h4 h.1
        rw [if_neg (n4 _), if_neg (n4 _)]
        by_cases hs : e.sender = t.sender
        · simp [hs]
        · have hs' : ¬ t.sender = e.sender := fun h => hs h.symm
          simp [hs, hs']
end Go.Proofs.Ytckoolpjphhfdaa

-- part R17
namespace Go.Proofs.Ytckoolpjphhfdaa
open Go Go.Abs Go.Proofs
set_option linter.unusedSimpArgs false
set_option linter.unusedVariables false
def shortE (e : Evt) : Bool := decide (e.content.text.length ≤ 500 ∧ e.sender.length ≤ 100)
def few36 (l : List Evt) : Bool := decide (l.length ≤ 40) && l.all shortE
set_option maxRecDepth 8000 in
set_option maxHeartbeats 4000000 in
theorem few36_ac (l : List Evt) : AC Try.prog 13 [evs l] (B (few36 l)) := by
  refine AC.of_body Try.func13 rfl rfl Try.ntmps13 (congrArg Array.toList Try.results13) (by simp) (pures1 (pure_evs _)) (pure_B _) fun w S' => AWp.bound 0 rfl fun hlen => AWp.of_vc [] ?_
  rw [evs_len] at hlen
  unfold few36
  by_cases h : (40 : Int) < l.length
  · have h' : ¬ l.length ≤ 40 := by omega
    simp [go_sem, h, h']
    refine PostR.ret ?_
    simp [go_sem]
  · have h' : l.length ≤ 40 := by omega
    simp [go_sem, h]
    refine AWp.loop_vc [] (fun m s => ∃ k : Nat, k ≤ l.length ∧ m = l.length - k ∧ s.σ 0 = evs l ∧ s.σ 3 = I k ∧ ∀ (j : Nat) x, j < k → l[j]? = some x → (fun e => !shortE e) x = false) l.length ⟨0, by simp [go_sem]⟩ ?_
    rintro m s ⟨k, hk, rfl, h0, h3, hno⟩
    by_cases hlt : k < l.length
    · by_cases c1 : (500 : Int) < l[k].content.text.length
      · have hs : shortE l[k] = false := by unfold shortE; rw [decide_eq_false_iff_not]; omega
        simp [go_sem, h0, h3, hlt, c1]
        refine PostR.ret ?_
        have : l.all shortE = false := by rw [List.all_eq_false]; exact ⟨l[k], List.getElem_mem _, by rw [hs]; simp⟩
        simp [go_sem, this]
      · by_cases c2 : (100 : Int) < l[k].sender.length
        · have hs : shortE l[k] = false := by unfold shortE; rw [decide_eq_false_iff_not]; omega
          simp [go_sem, h0, h3, hlt, c1, c2]
          refine PostR.ret ?_
          have : l.all shortE = false := by rw [List.all_eq_false]; exact ⟨l[k], List.getElem_mem _, by rw [hs]; simp⟩
          simp [go_sem, this]
        · have hs : shortE l[k] = true := by unfold shortE; rw [decide_eq_true_eq]; omega
          simp [go_sem, h0, h3, hlt, c1, c2, wrap_succ hlt hlen]
          exact ⟨l.length - (k + 1), by omega, k + 1, by omega, rfl, rfl, fun j x hj hx => by simpa using below15 (p := fun e => !shortE e) hlt hno (by simp [hs]) j x hj hx⟩
    · have ha : l.all shortE = true := by
        rw [List.all_eq_true]
        intro x hx
        obtain ⟨j, hj⟩ := List.mem_iff_getElem?.1 hx
        have := hno j x (by have := (List.getElem?_eq_some_iff.1 hj).1; omega) hj
        simpa using this
      simp [go_sem, h0, h3, hlt]
      refine PostR.ret ?_
      rw [ha]
      simp [go_sem, h']

set_option maxRecDepth 8000 in
set_option maxHeartbeats 4000000 in
theorem valid36_law (l : List Evt) (e : Evt) : AC Try.prog 6 [evs l, ev e] (B true) := by
  refine AC.of_body Try.func6 rfl rfl Try.ntmps6 (congrArg Array.toList Try.results6) (by simp) (pures2 (pure_evs _) (pure_ev _)) (pure_B _) fun w S' => AWp.of_vc [] ?_
  simp [go_sem]
  refine CallSem.pure (few36_ac l) (by simp [go_sem]) ?_
  cases hF : few36 l with
  | false =>
    simp [go_sem]
    refine CallSem.pure lives36_ac (by simp [go_sem]) ?_
    simp [go_sem]
    refine PostR.ret ?_
    simp [go_sem]
  | true =>
    have hl : l.length ≤ 100000 := by unfold few36 at hF; rw [Bool.and_eq_true, decide_eq_true_eq] at hF; omega
    by_cases c1 : (500 : Int) < e.content.text.length
    · simp [go_sem, c1]
      refine CallSem.pure lives36_ac (by simp [go_sem]) ?_
      simp [go_sem]
      refine PostR.ret ?_
      simp [go_sem]
    by_cases c2 : (100 : Int) < e.sender.length
    · simp [go_sem, c1, c2]
      refine CallSem.pure lives36_ac (by simp [go_sem]) ?_
      simp [go_sem]
      refine PostR.ret ?_
      simp [go_sem]
    simp [go_sem, c1, c2]
    refine AWp.drawAll rfl (by kernel_rfl) ?_
    simp [go_sem]
    refine CalmThen.pure (valid_ac l e hl) rfl ?_
    simp [go_sem]
    refine CalmThen.pure (rvalid_ac l e hl) rfl ?_
    rw [valid_eq]
    simp [go_sem]
    refine CalmThen.pure lives36_ac rfl ?_
    simp [go_sem]
    refine PostR.ret ?_
    simp [go_sem]

end Go.Proofs.Ytckoolpjphhfdaa

-- part R18
namespace Go.Proofs.Ytckoolpjphhfdaa
open Go Go.Abs Go.Proofs
set_option linter.unusedSimpArgs false
set_option linter.unusedVariables false
def ownL (E : List Evt) (r : Evt) : List Evt := E.filter fun x => decide (x.sender = r.sender)
theorem own_succ {E : List Evt} {k : Nat} (r : Evt) (hk : k < E.length) : ownL (E.take (k + 1)) r = ownL (E.take k) r ++ if E[k].sender = r.sender then [E[k]] else [] := by
  unfold ownL
  rw [List.take_succ_eq_append_getElem hk, List.filter_append]
  congr 1
  by_cases h : E[k].sender = r.sender <;> simp [h]
theorem ownL_len (E : List Evt) (r : Evt) : (ownL E r).length ≤ E.length := List.length_filter_le _ _
def rsumOf (l : List Evt) (id : Int) : SumD :=
  match rget l id with
  | none => ⟨0, [], 0, 0⟩
  | some r => ⟨latestOf (ownL (relL (onceL l) 3 id) r), pairsR (relL (onceL l) 4 id), (relL (onceL l) 2 id).length, latestOf (relL (onceL l) 2 id)⟩
def rshowOf (l : List Evt) (id : Int) : Bytes × Int :=
  match rget l id with
  | none => ([], 5)
  | some r => if r.kind = 11 then (if (ownL (relL (onceL l) 3 id) r).length = 0 then (r.content.text, 0) else (((rget (ownL (relL (onceL l) 3 id) r) (latestOf (ownL (relL (onceL l) 3 id) r))).getD evZ).content.text, 0)) else ([], 1)
set_option maxRecDepth 8000 in
set_option maxHeartbeats 4000000 in
theorem rsum_ac (l : List Evt) (id : Int) (hsz : l.length ≤ 100000) : AC Try.prog 16 [evs l, I id] (sumAV (rsumOf l id)) := by
  refine AC.of_body Try.func16 rfl rfl Try.ntmps16 (congrArg Array.toList Try.results16) (by simp) (pures2 (pure_evs _) (pure_I _)) (pure_sumAV _) fun w S' => AWp.of_vc [23] ?_
  have hol := onceL_len l
  unfold rsumOf
  simp [go_sem]
  refine CallSem.pure (rget36_ac l id) (by simp [go_sem]) ?_
  cases hg : rget l id with
  | none =>
    simp [go_sem]
    refine PostR.retW [] (r0 := .agg [I 0, .v (.slice none 0 0), I 0, I 0]) (by simp [go_sem]) ?_
    exact .one (.one (.agg ⟨.refl _, .nil _, .refl _, .refl _, trivial⟩))
  | some r =>
    simp [go_sem]
    refine CallSem.pure (related_ac l 3 id hsz) (by simp [go_sem]) ?_
    have hrl := relL_len (onceL l) 3 id
    generalize relL (onceL l) 3 id = E at hrl ⊢
    have hm : E.length ≤ maxLen := by unfold maxLen; omega
    simp [go_sem]
    refine AWp.loop_vc [] (fun m s => ∃ k v : Nat, k ≤ E.length ∧ m = E.length - k ∧ s.σ 0 = evs l ∧ s.σ 1 = I id ∧ s.σ 7 = evs E ∧ s.σ 9 = I k ∧ s.σ 5 = .rptr 5 1 0 0 ∧ s.ver 5 = 1 ∧ s.h 5 = .box (evc r) ∧ s.σ 4 = .rptr 4 1 0 0 ∧ s.ver 4 = 1 ∧ s.h 4 = .box [I 0, .v (.slice none 0 0), I 0, I 0] ∧ s.σ 8 = .ref 23 v ∧ s.ver 23 = v ∧ s.h 23 = .arr 34 29 ((ownL (E.take k) r).map ev)) E.length ⟨0, by simp [go_sem, ownL]⟩ ?_
    rintro m s ⟨k, v, hk, rfl, h0, h1, h7, h9, h5, hv5, hh5, h4, hv4, hh4, h8, hv8, hh8⟩
    by_cases hlt : k < E.length
    · have hsu := own_succ r hlt
      have htl := ownL_len (E.take k) r
      rw [List.length_take] at htl
      generalize ownL (E.take k) r = T at hh8 hsu htl
      simp [go_sem, h0, h1, h7, h9, h5, hv5, hh5, h4, hv4, hh4, h8, hv8, hh8, hlt]
      refine AWp.drawAll rfl (by kernel_rfl) ?_
      by_cases hs : E[k].sender = r.sender
      · rw [if_pos hs] at hsu
        simp [go_sem, h0, h1, h7, h9, h5, hv5, hh5, h4, hv4, hh4, h8, hv8, hh8, hlt, hs, wrap_succ hlt hm]
        exact ⟨⟨by omega, by omega⟩, E.length - (k + 1), by omega, k + 1, by omega, rfl, rfl, by rw [hsu]; simp; rfl⟩
      · rw [if_neg hs] at hsu
        simp [go_sem, h0, h1, h7, h9, h5, hv5, hh5, h4, hv4, hh4, h8, hv8, hh8, hlt, hs, wrap_succ hlt hm]
        exact ⟨E.length - (k + 1), by omega, k + 1, by omega, rfl, rfl, by rw [hsu]; simp⟩
    · obtain rfl : k = E.length := by omega
      rw [List.take_of_length_le (Nat.le_refl _)] at hh8
      have htl := ownL_len E r
      generalize ownL E r = T at hh8 htl ⊢
      simp [go_sem, h0, h1, h7, h9, h5, hv5, hh5, h4, hv4, hh4, h8, hv8, hh8]
      refine CallSem.pure (related_ac l 2 id hsz) (by simp [go_sem]) ?_
      have hr2 := relL_len (onceL l) 2 id
      generalize relL (onceL l) 2 id = Q at hr2 ⊢
      simp [go_sem, h0, h1, h7, h9, h5, hv5, hh5, h4, hv4, hh4, h8, hv8, hh8]
      refine CallSem.freeze 23 ?_
      simp [go_sem, h0, h1, h7, h9, h5, hv5, hh5, h4, hv4, hh4, h8, hv8, hh8]
      refine CallSem.pure (rlatest_ac T (by omega)) (by simp [go_sem]) ?_
      simp [go_sem, h0, h1, h7, h9, h5, hv5, hh5, h4, hv4, hh4, h8, hv8, hh8]
      refine CallSem.pure (related_ac l 4 id hsz) (by simp [go_sem]) ?_
      have hr4 := relL_len (onceL l) 4 id
      generalize relL (onceL l) 4 id = R at hr4 ⊢
      simp [go_sem, h0, h1, h7, h9, h5, hv5, hh5, h4, hv4, hh4, h8, hv8, hh8]
      refine CallSem.pure (rreactions_ac R (by omega)) (by simp [go_sem]) ?_
      simp [go_sem, h0, h1, h7, h9, h5, hv5, hh5, h4, hv4, hh4, h8, hv8, hh8]
      refine CallSem.pure (rlatest_ac Q (by omega)) (by simp [go_sem]) ?_
      simp [go_sem, h0, h1, h7, h9, h5, hv5, hh5, h4, hv4, hh4, h8, hv8, hh8]
      refine PostR.ret ?_
      simp [go_sem, h0, h1, h7, h9, h5, hv5, hh5, h4, hv4, hh4, h8, hv8, hh8, sumAV, sumc]

set_option maxRecDepth 8000 in
set_option maxHeartbeats 4000000 in
theorem rshow_ac (l : List Evt) (id : Int) (hsz : l.length ≤ 100000) : AC Try.prog 18 [evs l, I id] (.tup [S (rshowOf l id).1, I (rshowOf l id).2]) := by
  refine AC.of_body Try.func18 rfl rfl Try.ntmps18 (congrArg Array.toList Try.results18) (by simp) (pures2 (pure_evs _) (pure_I _)) (pureR_SI _ _) fun w S' => AWp.of_vc [27] ?_
  have hol := onceL_len l
  unfold rshowOf
  simp [go_sem]
  refine CallSem.pure (rget36_ac l id) (by simp [go_sem]) ?_
  cases hg : rget l id with
  | none =>
    simp [go_sem]
    refine PostR.ret ?_
    simp [go_sem]
  | some r =>
    by_cases hkd : r.kind = 11
    · simp [go_sem, hkd]
      refine CallSem.pure (related_ac l 3 id hsz) (by simp [go_sem]) ?_
      have hrl := relL_len (onceL l) 3 id
      generalize relL (onceL l) 3 id = E at hrl ⊢
      have hm : E.length ≤ maxLen := by unfold maxLen; omega
      simp [go_sem]
      refine AWp.loop_vc [] (fun m s => ∃ k v : Nat, k ≤ E.length ∧ m = E.length - k ∧ s.σ 8 = evs E ∧ s.σ 10 = I k ∧ s.σ 6 = .rptr 6 1 0 0 ∧ s.ver 6 = 1 ∧ s.h 6 = .box (evc r) ∧ s.σ 9 = .ref 27 v ∧ s.ver 27 = v ∧ s.h 27 = .arr 34 29 ((ownL (E.take k) r).map ev)) E.length ⟨0, by simp [go_sem, ownL]⟩ ?_
      rintro m s ⟨k, v, hk, rfl, h8, h10, h6, hv6, hh6, h9, hv9, hh9⟩
      by_cases hlt : k < E.length
      · have hsu := own_succ r hlt
        have htl := ownL_len (E.take k) r
        rw [List.length_take] at htl
        generalize ownL (E.take k) r = T at hh9 hsu htl
        simp [go_sem, h8, h10, h6, hv6, hh6, h9, hv9, hh9, hlt]
        refine AWp.drawAll rfl (by kernel_rfl) ?_
        by_cases hs : E[k].sender = r.sender
        · rw [if_pos hs] at hsu
          simp [go_sem, h8, h10, h6, hv6, hh6, h9, hv9, hh9, hlt, hs, wrap_succ hlt hm]
          exact ⟨⟨by omega, by omega⟩, E.length - (k + 1), by omega, k + 1, by omega, rfl, rfl, by rw [hsu]; simp; rfl⟩
        · rw [if_neg hs] at hsu
          simp [go_sem, h8, h10, h6, hv6, hh6, h9, hv9, hh9, hlt, hs, wrap_succ hlt hm]
          exact ⟨E.length - (k + 1), by omega, k + 1, by omega, rfl, rfl, by rw [hsu]; simp⟩
      · obtain rfl : k = E.length := by omega
        rw [List.take_of_length_le (Nat.le_refl _)] at hh9
        have htl := ownL_len E r
        generalize ownL E r = T at hh9 htl ⊢
        by_cases hT : T = []
        · subst hT
          simp [go_sem, h8, h10, h6, hv6, hh6, h9, hv9, hh9]
          refine PostR.ret ?_
          simp [go_sem]
        · have hT0 : ¬ T.length = 0 := fun h => hT (List.eq_nil_of_length_eq_zero h)
          simp [go_sem, h8, h10, h6, hv6, hh6, h9, hv9, hh9, hT]
          refine CallSem.freeze 27 ?_
          simp [go_sem, h8, h10, h6, hv6, hh6, h9, hv9, hh9, hT]
          refine CallSem.pure (rlatest_ac T (by omega)) (by simp [go_sem]) ?_
          simp [go_sem, h8, h10, h6, hv6, hh6, h9, hv9, hh9, hT]
          refine CallSem.pure (rget36_ac T (latestOf T)) (by simp [go_sem]) ?_
          cases hx : rget T (latestOf T) with
          | none =>
            simp [go_sem, evZc]
            refine PostR.ret ?_
            simp [go_sem]
          | some f =>
            simp [go_sem]
            refine PostR.ret ?_
            simp [go_sem]
    · simp [go_sem, hkd]
      refine PostR.ret ?_
      simp [go_sem]

theorem react_get2 {D : Pairs} {R : List AV} (h : reactL D = R) (q : Nat) (hq : q < R.length) : ∃ (t : Bytes) (n : Int), R[q] = .agg [S t, I n] := by
  subst h
  exact ⟨_, _, reactL_get (by rw [reactL_len] at hq; exact hq)⟩
set_option maxRecDepth 8000 in
set_option maxHeartbeats 4000000 in
theorem rsame36_ac (A : SumD) (hsz : A.pairs.length ≤ 100000) : AC Try.prog 14 [sumAV A, sumAV A] (B true) := by
  refine AC.of_body Try.func14 rfl rfl Try.ntmps14 (congrArg Array.toList Try.results14) (by simp) (pures2 (pure_sumAV _) (pure_sumAV _)) (pure_B _) fun w S' => AWp.of_vc [] ?_
  have hrl := reactL_len A.pairs
  have htl := textsL_len A.pairs
  unfold sumAV sumc reactAV
  generalize hR : reactL A.pairs = R at hrl ⊢
  have hget := react_get2 hR
  have hm : R.length ≤ maxLen := by unfold maxLen; omega
  simp [go_sem]
  refine AWp.loop_vc [] (fun m s => ∃ k : Nat, k ≤ R.length ∧ m = R.length - k ∧ s.σ 5 = I k ∧ s.σ 2 = .eptr [I A.edit, .lst 2 R, I A.thread, I A.last] 0 ∧ s.σ 3 = .eptr [I A.edit, .lst 2 R, I A.thread, I A.last] 0) R.length ⟨0, by simp [go_sem]⟩ ?_
  rintro m s ⟨k, hk, rfl, h5, h2, h3⟩
  by_cases hlt : k < R.length
  · obtain ⟨t, n, hg⟩ := hget k hlt
    simp [go_sem, h5, h2, h3, hlt]
    refine AWp.drawAll rfl (by kernel_rfl) ?_
    simp [go_sem, h5, h2, h3, hlt, hg, wrap_succ hlt hm]
    exact ⟨R.length - (k + 1), by omega, k + 1, by omega, rfl, rfl⟩
  · simp [go_sem, h5, h2, h3, hlt]
    refine PostR.ret ?_
    simp [go_sem]

end Go.Proofs.Ytckoolpjphhfdaa

-- part R19
namespace Go.Proofs.Ytckoolpjphhfdaa
open Go Go.Abs Go.Proofs
set_option linter.unusedSimpArgs false
set_option linter.unusedVariables false
def topE : List Evt → Option Evt
  | [] => none
  | x :: xs => some (xs.foldl pickE x)
theorem latU_cons (x : Evt) (xs : List Evt) : ∀ k, k ≤ xs.length → latU (x :: xs) k = (xs.take k).foldl pickE x
  | 0, _ => rfl
  | k + 1, hk => by
    have hlt : k < xs.length := by omega
    rw [latU_succ (by simp; omega), latU_cons x xs k (by omega), List.take_succ_eq_append_getElem hlt, List.foldl_append]
    rfl
theorem latestOf_top (L : List Evt) : latestOf L = match topE L with | none => 0 | some x => x.id := by
  cases L with
  | nil => rfl
  | cons x xs =>
    unfold latestOf
    rw [if_neg (by simp)]
    show (latU (x :: xs) (xs.length + 1 - 1)).id = _
    rw [Nat.add_sub_cancel, latU_cons x xs xs.length (Nat.le_refl _), List.take_of_length_le (Nat.le_refl _)]
    rfl
theorem topE_snoc (L : List Evt) (e : Evt) : topE (L ++ [e]) = some (match topE L with | none => e | some x => pickE x e) := by
  cases L with
  | nil => rfl
  | cons x xs =>
    show some ((xs ++ [e]).foldl pickE x) = _
    rw [List.foldl_append]; rfl
theorem topE_some {L : List Evt} (h : L ≠ []) : ∃ x, topE L = some x := by
  cases L with
  | nil => exact absurd rfl h
  | cons x xs => exact ⟨_, rfl⟩
theorem topE_none {L : List Evt} (h : topE L = none) : L = [] := by
  cases L with
  | nil => rfl
  | cons x xs => cases h
theorem laterE_trans {x y z : Evt} (h1 : laterE x y = true) (h2 : laterE y z = true) : laterE x z = true := by
  unfold laterE at *
  rw [decide_eq_true_eq] at *
  omega
theorem laterE_anti {x y : Evt} (h1 : laterE x y = true) : laterE y x = false := by
  unfold laterE at *
  rw [decide_eq_true_eq] at h1
  rw [decide_eq_false_iff_not]
  omega
theorem laterE_ne {x y z : Evt} (h1 : laterE x y = false) (h2 : laterE x z = true) : laterE z y = false := by
  unfold laterE at *
  rw [decide_eq_true_eq] at h2
  rw [decide_eq_false_iff_not] at *
  omega
theorem laterE_irr (x : Evt) : laterE x x = false := by unfold laterE; rw [decide_eq_false_iff_not]; omega
theorem topE_cons_spec (xs : List Evt) : ∀ x : Evt, (xs.foldl pickE x ∈ x :: xs) ∧ ∀ y ∈ x :: xs, laterE (xs.foldl pickE x) y = false := by
  induction xs with
  | nil => intro x; exact ⟨List.mem_cons_self .., fun y hy => by rw [List.mem_singleton] at hy; subst hy; exact laterE_irr _⟩
  | cons e xs ih =>
    intro x
    rw [List.foldl_cons]
    obtain ⟨h1, h2⟩ := ih (pickE x e)
    generalize xs.foldl pickE (pickE x e) = t at h1 h2 ⊢
    unfold pickE at h1 h2
    cases hl : laterE x e with
    | true =>
      rw [hl, if_pos rfl] at h1 h2
      refine ⟨List.mem_cons_of_mem _ h1, fun y hy => ?_⟩
      rcases List.mem_cons.1 hy with rfl | hy
      · have h3 := h2 e (List.mem_cons_self ..)
        cases hx : laterE t y with
        | false => rfl
        | true => have := laterE_trans hx hl; rw [h3] at this; cases this
      · exact h2 y hy
    | false =>
      rw [hl, if_neg (by simp)] at h1 h2
      refine ⟨?_, fun y hy => ?_⟩
      · rcases List.mem_cons.1 h1 with rfl | h
        · exact List.mem_cons_self ..
        · exact List.mem_cons_of_mem _ (List.mem_cons_of_mem _ h)
      · rcases List.mem_cons.1 hy with rfl | hy
        · exact h2 y (List.mem_cons_self ..)
        · rcases List.mem_cons.1 hy with rfl | hy
          · have h3 := h2 x (List.mem_cons_self ..)
            cases hx : laterE t y with
            | false => rfl
            | true =>
              cases hxt : laterE t x with
              | true => rw [h3] at hxt; cases hxt
              | false => unfold laterE at hx hxt hl; rw [decide_eq_true_eq] at hx; rw [decide_eq_false_iff_not] at hxt hl; omega
          · exact h2 y (List.mem_cons_of_mem _ hy)
theorem topE_mem {L : List Evt} {x : Evt} (h : topE L = some x) : x ∈ L := by
  cases L with
  | nil => cases h
  | cons a xs => cases h; exact (topE_cons_spec xs a).1
theorem topE_max {L : List Evt} {x : Evt} (h : topE L = some x) : ∀ y ∈ L, laterE x y = false := by
  cases L with
  | nil => cases h
  | cons a xs => cases h; exact (topE_cons_spec xs a).2
/-- Ids above 0, each once. -/
def UniqE (K : List Evt) : Prop := (∀ x ∈ K, 0 < x.id) ∧ (K.map fun e => e.id).Nodup
theorem getE_some {L : List Evt} {n : Int} {x : Evt} (h : getE L n = some x) : x ∈ L ∧ x.id = n := by
  unfold getE at h
  exact ⟨List.mem_of_find?_eq_some h, by have := List.find?_some h; simpa using this⟩
theorem id_inj : ∀ {K : List Evt}, (K.map fun e => e.id).Nodup → ∀ {x y : Evt}, x ∈ K → y ∈ K → x.id = y.id → x = y
  | [], _, _, _, hx, _, _ => by cases hx
  | a :: K, h, x, y, hx, hy, he => by
    rw [List.map_cons, List.nodup_cons] at h
    rcases List.mem_cons.1 hx with hx' | hx' <;> rcases List.mem_cons.1 hy with hy' | hy'
    · rw [hx', hy']
    · exact absurd (List.mem_map.2 ⟨y, hy', by rw [← he, hx']⟩) h.1
    · exact absurd (List.mem_map.2 ⟨x, hx', by rw [he, hy']⟩) h.1
    · exact id_inj h.2 hx' hy' he
theorem getE_mem {K : List Evt} (h : UniqE K) {x : Evt} (hx : x ∈ K) : getE K x.id = some x := by
  cases hg : getE K x.id with
  | none =>
    unfold getE at hg
    have := List.find?_eq_none.1 hg x hx
    simp at this
  | some y =>
    obtain ⟨h1, h2⟩ := getE_some hg
    rw [id_inj h.2 h1 hx h2]
theorem getE_zero {K : List Evt} (h : UniqE K) : getE K 0 = none := by
  cases hg : getE K 0 with
  | none => rfl
  | some y =>
    obtain ⟨h1, h2⟩ := getE_some hg
    have := h.1 y h1; omega
theorem uniq_sub {K L : List Evt} (h : UniqE K) (hs : List.Sublist L K) : UniqE L :=
  ⟨fun x hx => h.1 x (hs.subset hx), (hs.map fun e => e.id).nodup h.2⟩
theorem onceU_uniq (l : List Evt) : ∀ k, k ≤ l.length → UniqE (onceU l k)
  | 0, _ => ⟨fun x hx => (List.not_mem_nil hx).elim, List.nodup_nil⟩
  | k + 1, hk => by
    have ih := onceU_uniq l k (by omega)
    have hlt : k < l.length := by omega
    cases hn : isNew l k l[k] with
    | true =>
      rw [onceU_new hlt hn]
      unfold isNew at hn
      rw [Bool.and_eq_true, decide_eq_true_eq, Option.isNone_iff_eq_none] at hn
      refine ⟨fun x hx => ?_, ?_⟩
      · rcases List.mem_append.1 hx with hx | hx
        · exact ih.1 x hx
        · rw [List.mem_singleton] at hx; subst hx; exact hn.1
      · rw [List.map_append, List.nodup_append]
        refine ⟨ih.2, by simp, fun a ha b hb hab => ?_⟩
        rw [List.map_cons, List.map_nil, List.mem_singleton] at hb
        obtain ⟨x, hx, rfl⟩ := List.mem_map.1 ha
        have h1 := getE_mem ih hx
        have h2 := getE_onceU l l[k].id k (by omega)
        rw [if_pos hn.1, hn.2] at h2
        have h3 : x.id = l[k].id := by rw [← hb]; exact hab
        rw [h3, h2] at h1; cases h1
    | false => rw [onceU_old hlt hn]; exact ih
theorem once_uniq (l : List Evt) : UniqE (onceL l) := onceU_uniq l l.length (Nat.le_refl _)
theorem onceU_take {K : List Evt} (h : UniqE K) : ∀ k, k ≤ K.length → onceU K k = K.take k
  | 0, _ => rfl
  | k + 1, hk => by
    have ih := onceU_take h k (by omega)
    have hlt : k < K.length := by omega
    have hn : isNew K k K[k] = true := by
      unfold isNew
      rw [Bool.and_eq_true, decide_eq_true_eq, Option.isNone_iff_eq_none]
      refine ⟨h.1 _ (List.getElem_mem _), ?_⟩
      cases hg : getE (K.take k) K[k].id with
      | none => rfl
      | some y =>
        obtain ⟨h1, h2⟩ := getE_some hg
        have hs : UniqE (K.take (k + 1)) := uniq_sub h (List.take_sublist _ _)
        rw [List.take_succ_eq_append_getElem hlt] at hs
        have hd := hs.2
        rw [List.map_append, List.nodup_append] at hd
        exact absurd rfl (hd.2.2 _ (List.mem_map_of_mem (f := fun e : Evt => e.id) h1) y.id (by rw [List.map_cons, List.map_nil, List.mem_singleton]; exact h2))
    rw [onceU_new hlt hn, ih, List.take_succ_eq_append_getElem hlt]
theorem onceL_uniq {K : List Evt} (h : UniqE K) : onceL K = K := by
  unfold onceL; rw [onceU_take h K.length (Nat.le_refl _), List.take_of_length_le (Nat.le_refl _)]
theorem latE_snoc {K L : List Evt} (h : UniqE K) (hL : ∀ x ∈ L, x ∈ K) (e : Evt) : latE K (latestOf L) e = latestOf (L ++ [e]) := by
  rw [latestOf_top, latestOf_top, topE_snoc]
  unfold latE
  cases ht : topE L with
  | none => simp only []; rw [getE_zero h]
  | some x =>
    simp only []
    rw [getE_mem h (hL x (topE_mem ht))]
    simp only []
    unfold pickE
    split <;> rfl
theorem rel_snoc (P : List Evt) (e : Evt) (rel id : Int) : relL (P ++ [e]) rel id = relL P rel id ++ if (relE e).1 = rel ∧ (relE e).2 = id then [e] else [] := by
  unfold relL
  rw [List.filter_append]
  congr 1
  by_cases h : (relE e).1 = rel ∧ (relE e).2 = id <;> simp [isRel, h]
theorem own_snoc (E : List Evt) (r e : Evt) : ownL (E ++ [e]) r = ownL E r ++ if e.sender = r.sender then [e] else [] := by
  unfold ownL
  rw [List.filter_append]
  congr 1
  by_cases h : e.sender = r.sender <;> simp [h]
theorem rel_mem {K : List Evt} {rel id : Int} {x : Evt} (h : x ∈ relL K rel id) : x ∈ K ∧ (relE x).1 = rel ∧ (relE x).2 = id := by
  obtain ⟨h1, h2⟩ := List.mem_filter.1 h
  unfold isRel at h2
  rw [decide_eq_true_eq] at h2
  exact ⟨h1, h2⟩
theorem own_mem {E : List Evt} {r x : Evt} (h : x ∈ ownL E r) : x ∈ E ∧ x.sender = r.sender := by
  obtain ⟨h1, h2⟩ := List.mem_filter.1 h
  rw [decide_eq_true_eq] at h2
  exact ⟨h1, h2⟩
theorem sumFold_eq {K : List Evt} (h : UniqE K) (r : Evt) (id : Int) : ∀ k, k ≤ K.length → sumFold K r id (K.take k) = (latestOf (ownL (relL (K.take k) 3 id) r), ((relL (K.take k) 2 id).length : Int), latestOf (relL (K.take k) 2 id))
  | 0, _ => rfl
  | k + 1, hk => by
    have ih := sumFold_eq h r id k (by omega)
    have hlt : k < K.length := by omega
    have hsub : ∀ x ∈ K.take k, x ∈ K := fun x hx => List.mem_of_mem_take hx
    rw [sum_succ r id hlt, ih, List.take_succ_eq_append_getElem hlt]
    have hP : ∀ x ∈ K.take k, x ∈ K := hsub
    generalize K.take k = P at hP
    generalize K[k] = e
    unfold sumStep
    rw [rel_snoc, rel_snoc]
    by_cases h3 : (relE e).1 = 3 ∧ (relE e).2 = id
    · have h2no : ¬ ((relE e).1 = 2 ∧ (relE e).2 = id) := fun g => by have := g.1.symm.trans h3.1; omega
      rw [if_pos h3, if_pos h3, if_neg h2no, own_snoc]
      by_cases hs : e.sender = r.sender
      · rw [if_pos hs, if_pos hs, List.append_nil]
        simp only []
        rw [latE_snoc h fun x hx => hP x (rel_mem (own_mem hx).1).1]
      · rw [if_neg hs, if_neg hs, List.append_nil, List.append_nil]
    · rw [if_neg h3, if_neg h3, List.append_nil]
      by_cases h2 : (relE e).1 = 2 ∧ (relE e).2 = id
      · rw [if_pos h2, if_pos h2]
        simp only []
        rw [latE_snoc h fun x hx => hP x (rel_mem hx).1, List.length_append]
        simp
      · rw [if_neg h2, if_neg h2, List.append_nil]
/-- What the program sums up is what the reference sums up. -/
theorem sum_eq (l : List Evt) (id : Int) : sumOf l id = rsumOf l id := by
  unfold sumOf rsumOf
  rw [getE_once]
  cases rget l id with
  | none => rfl
  | some r =>
    have hf := sumFold_eq (once_uniq l) r id (onceL l).length (Nat.le_refl _)
    rw [List.take_of_length_le (Nat.le_refl _)] at hf
    simp only [hf, pairs_rel]
theorem sum_once (l : List Evt) (id : Int) : sumOf (onceL l) id = rsumOf l id := by
  rw [← sum_eq]
  unfold sumOf
  rw [onceL_uniq (once_uniq l)]
theorem show_eq (l : List Evt) (id : Int) : showOf l id = rshowOf l id := by
  unfold showOf rshowOf
  rw [getE_once, sum_once]
  unfold rsumOf
  cases hg : rget l id with
  | none => rfl
  | some r =>
    simp only []
    by_cases hk : r.kind = 11
    · rw [if_pos hk, if_pos hk]
      have hu := once_uniq l
      have hT : UniqE (ownL (relL (onceL l) 3 id) r) := uniq_sub hu (List.Sublist.trans (List.filter_sublist ..) (List.filter_sublist ..))
      have hTK : ∀ x ∈ ownL (relL (onceL l) 3 id) r, x ∈ onceL l := fun x hx => (rel_mem (own_mem hx).1).1
      generalize ownL (relL (onceL l) 3 id) r = T at hT hTK
      rw [latestOf_top]
      cases ht : topE T with
      | none =>
        have := topE_none ht
        subst this
        simp only []
        rw [getE_zero hu]
        rfl
      | some x =>
        have hx := topE_mem ht
        simp only []
        rw [getE_mem hu (hTK x hx), if_neg (fun h => by rw [List.eq_nil_of_length_eq_zero h] at hx; cases hx)]
        unfold rget
        rw [if_pos (hT.1 x hx), getE_mem hT hx]
        rfl
    · rw [if_neg hk, if_neg hk]
end Go.Proofs.Ytckoolpjphhfdaa

-- part R20
namespace Go.Proofs.Ytckoolpjphhfdaa
open Go Go.Abs Go.Proofs
set_option linter.unusedSimpArgs false
set_option linter.unusedVariables false
theorem few_len {l : List Evt} (h : few36 l = true) : l.length ≤ 40 := by unfold few36 at h; rw [Bool.and_eq_true, decide_eq_true_eq] at h; omega
theorem rsum_ac2 (l : List Evt) (id : Int) (hsz : l.length ≤ 100000) : AC Try.prog 16 [evs l, I id] (sumAV (sumOf l id)) := by rw [sum_eq]; exact rsum_ac l id hsz
theorem rshow_ac2 (l : List Evt) (id : Int) (hsz : l.length ≤ 100000) : AC Try.prog 18 [evs l, I id] (.tup [S (showOf l id).1, I (showOf l id).2]) := by rw [show_eq]; exact rshow_ac l id hsz
theorem sum_pairs_len (l : List Evt) (id : Int) : (sumOf l id).pairs.length ≤ l.length := by
  unfold sumOf
  have h1 := pairs_len id (onceL l)
  have h2 := onceL_len l
  cases getE (onceL l) id with
  | none => simp
  | some r => simp only []; omega
set_option maxRecDepth 8000 in
set_option maxHeartbeats 4000000 in
theorem sums36_law (l : List Evt) (id : Int) : AC Try.prog 4 [evs l, I id] (B true) := by
  refine AC.of_body Try.func4 rfl rfl Try.ntmps4 (congrArg Array.toList Try.results4) (by simp) (pures2 (pure_evs _) (pure_I _)) (pure_B _) fun w S' => AWp.of_vc [] ?_
  simp [go_sem]
  refine CallSem.pure (few36_ac l) (by simp [go_sem]) ?_
  cases hF : few36 l with
  | false =>
    simp [go_sem]
    refine CallSem.pure lives36_ac (by simp [go_sem]) ?_
    simp [go_sem]
    refine PostR.ret ?_
    simp [go_sem]
  | true =>
    have h40 := few_len hF
    have hpl := sum_pairs_len l id
    simp [go_sem]
    refine CallSem.pure (sum_ac l id (by omega)) (by simp [go_sem]) ?_
    simp [go_sem]
    refine CallSem.pure (rsum_ac2 l id (by omega)) (by simp [go_sem]) ?_
    simp [go_sem]
    refine CallSem.pure (rsame36_ac (sumOf l id) (by omega)) (by simp [go_sem]) ?_
    simp [go_sem]
    refine CallSem.pure lives36_ac (by simp [go_sem]) ?_
    simp [go_sem]
    refine PostR.ret ?_
    simp [go_sem]

set_option maxRecDepth 8000 in
set_option maxHeartbeats 4000000 in
theorem shows36_law (l : List Evt) (id : Int) : AC Try.prog 5 [evs l, I id] (B true) := by
  refine AC.of_body Try.func5 rfl rfl Try.ntmps5 (congrArg Array.toList Try.results5) (by simp) (pures2 (pure_evs _) (pure_I _)) (pure_B _) fun w S' => AWp.of_vc [] ?_
  simp [go_sem]
  refine CallSem.pure (few36_ac l) (by simp [go_sem]) ?_
  cases hF : few36 l with
  | false =>
    simp [go_sem]
    refine CallSem.pure lives36_ac (by simp [go_sem]) ?_
    simp [go_sem]
    refine PostR.ret ?_
    simp [go_sem]
  | true =>
    have h40 := few_len hF
    simp [go_sem]
    refine CallSem.pure (show_ac l id (by omega)) (by simp [go_sem]) ?_
    simp [go_sem]
    refine CallSem.pure (rshow_ac2 l id (by omega)) (by simp [go_sem]) ?_
    simp [go_sem]
    refine CallSem.pure (threads_ac l (by omega)) (by simp [go_sem]) ?_
    simp [go_sem]
    refine CallSem.pure (rthreads_ac l (by omega)) (by simp [go_sem]) ?_
    simp [go_sem]
    refine CallSem.pure (same_ac _ _) (by simp [go_sem]) ?_
    simp [go_sem]
    refine CallSem.pure lives36_ac (by simp [go_sem]) ?_
    simp [go_sem]
    refine PostR.ret ?_
    simp [go_sem]

end Go.Proofs.Ytckoolpjphhfdaa

-- part R21
namespace Go.Proofs.Ytckoolpjphhfdaa
open Go Go.Abs Go.Proofs
set_option linter.unusedSimpArgs false
set_option linter.unusedVariables false
def newAt (l : List Evt) (j : Nat) : Bool := match l[j]? with | some x => isNew l j x | none => true
def single36 (l : List Evt) : Bool := (List.range l.length).all (newAt l)
theorem single_false {l : List Evt} {k : Nat} (hk : k < l.length) (h : isNew l k l[k] = false) : single36 l = false := by
  unfold single36
  rw [List.all_eq_false]
  refine ⟨k, List.mem_range.2 hk, ?_⟩
  unfold newAt
  rw [List.getElem?_eq_getElem hk]
  simp [h]
theorem single_true {l : List Evt} (h : ∀ (j : Nat) x, l[j]? = some x → (fun i => !isNew l i x) j = false) : single36 l = true := by
  unfold single36
  rw [List.all_eq_true]
  intro j hj
  unfold newAt
  cases hx : l[j]? with
  | none => rfl
  | some x => simpa using h j x hx
theorem single_uniq {l : List Evt} (h : single36 l = true) : UniqE l := by
  unfold single36 at h
  rw [List.all_eq_true] at h
  have ht : ∀ k, k ≤ l.length → onceU l k = l.take k := by
    intro k
    induction k with
    | zero => intro _; rfl
    | succ k ih =>
      intro hk
      have hlt : k < l.length := by omega
      have hn := h k (List.mem_range.2 hlt)
      unfold newAt at hn
      rw [List.getElem?_eq_getElem hlt] at hn
      rw [onceU_new hlt hn, ih (by omega), List.take_succ_eq_append_getElem hlt]
  have ho : onceL l = l := by unfold onceL; rw [ht l.length (Nat.le_refl _), List.take_of_length_le (Nat.le_refl _)]
  have := once_uniq l
  rwa [ho] at this
set_option maxRecDepth 8000 in
set_option maxHeartbeats 4000000 in
theorem single36_ac (l : List Evt) : AC Try.prog 24 [evs l] (B (single36 l)) := by
  refine AC.of_body Try.func24 rfl rfl Try.ntmps24 (congrArg Array.toList Try.results24) (by simp) (pures1 (pure_evs _)) (pure_B _) fun w S' => AWp.bound 0 rfl fun hlen => AWp.of_vc [] ?_
  rw [evs_len] at hlen
  have hinj : ∀ d d' : Nat, d ≠ d' → d ≠ d' := fun _ _ h => h
  simp [go_sem]
  refine AWp.loop_vc [] (fun m s => ∃ k : Nat, k ≤ l.length ∧ m = l.length - k ∧ s.σ 0 = evs l ∧ s.σ 3 = I k ∧ ∀ (j : Nat) x, j < k → l[j]? = some x → (!isNew l j x) = false) l.length ⟨0, by simp [go_sem]⟩ ?_
  rintro m s ⟨k, hk, rfl, h0, h3, hno⟩
  by_cases hlt : k < l.length
  · have hkm : (k : Int) ≤ l.length := by omega
    have hnext : isNew l k l[k] = true → ∀ (j : Nat) x, j < k + 1 → l[j]? = some x → (!isNew l j x) = false := fun hn j x hj hx => by
      rcases Nat.lt_succ_iff_lt_or_eq.1 hj with g | g
      · exact hno j x g hx
      · subst g; rw [List.getElem?_eq_getElem hlt] at hx; cases hx; simp [hn]
    simp [go_sem, h0, h3, hlt]
    refine AWp.drawText [] [4] [] [] rfl (by kernel_rfl) hinj ?_
    simp [go_sem, h0, h3, hlt, hk]
    refine CalmThen.pure (rget36_take l k l[k].id) rfl ?_
    unfold rget
    by_cases hp : 0 < l[k].id
    · rw [if_pos hp]
      have hp2 : ¬ l[k].id ≤ 0 := by omega
      cases hg : getE (l.take k) l[k].id with
      | none =>
        have hn : isNew l k l[k] = true := by unfold isNew; rw [hg]; simp [hp]
        simp [go_sem, h0, h3, hlt, hp2, wrap_succ hlt hlen]
        exact ⟨l.length - (k + 1), by omega, k + 1, by omega, rfl, rfl, fun j x hj hx => by simpa using hnext hn j x hj hx⟩
      | some x =>
        have hn : isNew l k l[k] = false := by unfold isNew; rw [hg]; simp
        simp [go_sem, h0, h3, hlt]
        refine PostR.ret ?_
        rw [single_false hlt hn]
        simp [go_sem]
    · rw [if_neg hp]
      have hp2 : l[k].id ≤ 0 := by omega
      have hn : isNew l k l[k] = false := by unfold isNew; simp [hp]
      simp [go_sem, h0, h3, hlt, hp2]
      refine PostR.ret ?_
      rw [single_false hlt hn]
      simp [go_sem]
  · simp [go_sem, h0, h3, hlt]
    refine PostR.ret ?_
    rw [single_true fun j x hx => hno j x (by have := (List.getElem?_eq_some_iff.1 hx).1; omega) hx]
    simp [go_sem]

theorem rel_fields (e : Evt) : (¬ (relE e).1 = 0 → (relE e).2 = e.content.target) ∧ ((relE e).1 = 4 → e.kind = 12) ∧ ((relE e).1 = 3 → e.kind = 13) ∧ ((relE e).1 = 2 → e.kind = 11 ∧ e.content.thread = true) := by
  unfold relE
  by_cases h0 : e.content.target ≤ 0
  · simp [h0]
  by_cases h1 : e.kind = 12
  · simp [h0, h1]
  by_cases h2 : e.kind = 13
  · simp [h0, h1, h2]
  by_cases h3 : e.kind = 11
  · cases h4 : e.content.thread <;> simp [h0, h1, h2, h3, h4]
  · simp [h0, h1, h2, h3]
theorem rget_uniq {l : List Evt} (h : UniqE l) (n : Int) : rget l n = getE l n := by rw [← getE_once, onceL_uniq h]
theorem edits_facts {l : List Evt} (h : UniqE l) (id : Int) :
    (rget l id = none ∧ showOf l id = ([], 5)) ∨ (∃ e, rget l id = some e ∧ ¬ e.kind = 11 ∧ showOf l id = ([], 1)) ∨
    (∃ e, rget l id = some e ∧ showOf l id = (e.content.text, 0) ∧ (sumOf l id).edit = 0) ∨
    (∃ e x, rget l id = some e ∧ showOf l id = (x.content.text, 0) ∧ (sumOf l id).edit = x.id ∧ ¬ x.id = 0 ∧ rget l x.id = some x ∧ x.kind = 13 ∧ x.sender = e.sender ∧ x.content.target = id) := by
  rw [sum_eq, show_eq]
  unfold rshowOf rsumOf
  rw [onceL_uniq h]
  cases hg : rget l id with
  | none => exact .inl ⟨rfl, rfl⟩
  | some e =>
    simp only []
    by_cases hk : e.kind = 11
    · rw [if_pos hk]
      have hT : UniqE (ownL (relL l 3 id) e) := uniq_sub h (List.Sublist.trans (List.filter_sublist ..) (List.filter_sublist ..))
      have hTK : ∀ x ∈ ownL (relL l 3 id) e, x ∈ l ∧ ((relE x).1 = 3 ∧ (relE x).2 = id) ∧ x.sender = e.sender := fun x hx => ⟨(rel_mem (own_mem hx).1).1, (rel_mem (own_mem hx).1).2, (own_mem hx).2⟩
      generalize ownL (relL l 3 id) e = T at hT hTK
      rw [latestOf_top]
      cases ht : topE T with
      | none =>
        have := topE_none ht
        subst this
        exact .inr (.inr (.inl ⟨e, rfl, rfl, rfl⟩))
      | some x =>
        have hx := topE_mem ht
        obtain ⟨a, ⟨b, c⟩, d⟩ := hTK x hx
        have hf := rel_fields x
        refine .inr (.inr (.inr ⟨e, x, rfl, ?_, rfl, by have := hT.1 x hx; omega, by rw [rget_uniq h, getE_mem h a], hf.2.2.1 b, d, by rw [← hf.1 (by omega), c]⟩))
        rw [if_neg (fun h => by rw [List.eq_nil_of_length_eq_zero h] at hx; cases hx)]
        simp only []
        rw [rget_uniq hT, getE_mem hT hx]
        rfl
    · rw [if_neg hk]
      exact .inr (.inl ⟨e, rfl, hk, rfl⟩)
set_option maxRecDepth 8000 in
set_option maxHeartbeats 4000000 in
theorem edits36_law (l : List Evt) (id : Int) : AC Try.prog 8 [evs l, I id] (B true) := by
  refine AC.of_body Try.func8 rfl rfl Try.ntmps8 (congrArg Array.toList Try.results8) (by simp) (pures2 (pure_evs _) (pure_I _)) (pure_B _) fun w S' => AWp.of_vc [] ?_
  simp [go_sem]
  refine CallSem.pure (few36_ac l) (by simp [go_sem]) ?_
  cases hF : few36 l with
  | false =>
    simp [go_sem]
    refine CallSem.pure lives36_ac (by simp [go_sem]) ?_
    simp [go_sem]
    refine PostR.ret ?_
    simp [go_sem]
  | true =>
    have h40 := few_len hF
    simp [go_sem]
    refine CallSem.pure (single36_ac l) (by simp [go_sem]) ?_
    cases hS : single36 l with
    | false =>
      simp [go_sem]
      refine CallSem.pure lives36_ac (by simp [go_sem]) ?_
      simp [go_sem]
      refine PostR.ret ?_
      simp [go_sem]
    | true =>
      have hU := single_uniq hS
      have hs := show_ac l id (by omega)
      have hm := sum_ac l id (by omega)
      have hg := rget36_ac l id
      simp [go_sem]
      rcases edits_facts hU id with ⟨h1, h2⟩ | ⟨e, h1, h2, h3⟩ | ⟨e, h1, h2, h3⟩ | ⟨e, x, h1, h2, h3, h4, h5, h6, h7, h8⟩
      · rw [h2] at hs
        rw [h1] at hg
        refine CallSem.pure hs (by simp [go_sem]) ?_
        simp [go_sem]
        refine CallSem.pure hg (by simp [go_sem]) ?_
        simp [go_sem]
        refine CallSem.pure lives36_ac (by simp [go_sem]) ?_
        simp [go_sem]
        refine PostR.ret ?_
        simp [go_sem]
      · rw [h3] at hs
        rw [h1] at hg
        have h2' : (e.kind == 11) = false := by simpa using h2
        refine CallSem.pure hs (by simp [go_sem]) ?_
        simp [go_sem]
        refine CallSem.pure hg (by simp [go_sem]) ?_
        simp [go_sem, h2, h2']
        refine CallSem.pure lives36_ac (by simp [go_sem]) ?_
        simp [go_sem, h2]
        refine PostR.ret ?_
        simp [go_sem, h2]
      · rw [h2] at hs
        rw [h1] at hg
        refine CallSem.pure hs (by simp [go_sem]) ?_
        simp [go_sem]
        refine CallSem.pure hg (by simp [go_sem]) ?_
        simp [go_sem]
        refine CallSem.pure hm (by simp [go_sem]) ?_
        simp [go_sem, sumAV, sumc, h3]
        refine CallSem.pure lives36_ac (by simp [go_sem]) ?_
        simp [go_sem]
        refine PostR.ret ?_
        simp [go_sem]
      · rw [h2] at hs
        rw [h1] at hg
        have hg2 := rget36_ac l x.id
        rw [h5] at hg2
        refine CallSem.pure hs (by simp [go_sem]) ?_
        simp [go_sem]
        refine CallSem.pure hg (by simp [go_sem]) ?_
        simp [go_sem]
        refine CallSem.pure hm (by simp [go_sem]) ?_
        simp [go_sem, sumAV, sumc, h3, h4]
        refine CallSem.pure hg2 (by simp [go_sem]) ?_
        simp [go_sem, h6, h7, h8]
        refine CallSem.pure lives36_ac (by simp [go_sem]) ?_
        simp [go_sem]
        refine PostR.ret ?_
        simp [go_sem]

end Go.Proofs.Ytckoolpjphhfdaa

-- part R22
namespace Go.Proofs.Ytckoolpjphhfdaa
open Go Go.Abs Go.Proofs
set_option linter.unusedSimpArgs false
set_option linter.unusedVariables false
theorem uniq_rev {l : List Evt} (h : UniqE l) : UniqE l.reverse :=
  ⟨fun x hx => h.1 x (List.mem_reverse.1 hx), by rw [List.map_reverse]; exact (List.reverse_perm _).nodup_iff.2 h.2⟩
theorem getE_rev {l : List Evt} (h : UniqE l) (n : Int) : getE l.reverse n = getE l n := by
  cases hg : getE l n with
  | some x =>
    obtain ⟨h1, h2⟩ := getE_some hg
    rw [← h2]
    exact getE_mem (uniq_rev h) (List.mem_reverse.2 h1)
  | none =>
    cases hg2 : getE l.reverse n with
    | none => rfl
    | some x =>
      obtain ⟨h1, h2⟩ := getE_some hg2
      have := getE_mem h (List.mem_reverse.1 h1)
      rw [h2, hg] at this; cases this
theorem topE_congr {A B : List Evt} (h : ∀ x, x ∈ A ↔ x ∈ B) : latestOf A = latestOf B := by
  rw [latestOf_top, latestOf_top]
  cases ha : topE A with
  | none =>
    have := topE_none ha
    subst this
    cases hb : topE B with
    | none => rfl
    | some y => have := (h y).2 (topE_mem hb); cases this
  | some x =>
    cases hb : topE B with
    | none =>
      have := topE_none hb
      subst this
      have := (h x).1 (topE_mem ha); cases this
    | some y =>
      have h1 := topE_max ha y ((h y).2 (topE_mem hb))
      have h2 := topE_max hb x ((h x).1 (topE_mem ha))
      unfold laterE at h1 h2
      rw [decide_eq_false_iff_not] at h1 h2
      show x.id = y.id
      omega
theorem rel_rev (l : List Evt) (rel id : Int) : relL l.reverse rel id = (relL l rel id).reverse := by unfold relL; rw [List.filter_reverse]
theorem own_rev (l : List Evt) (r : Evt) : ownL l.reverse r = (ownL l r).reverse := by unfold ownL; rw [List.filter_reverse]
theorem latest_rev (l : List Evt) : latestOf l.reverse = latestOf l := topE_congr fun x => List.mem_reverse
theorem pairsR_nodup (L : List Evt) : (pairsR L).Nodup := by
  unfold pairsR
  suffices ∀ (L : List Evt) (D : Pairs), D.Nodup → (L.foldl addP D).Nodup from this L [] List.nodup_nil
  intro L
  induction L with
  | nil => intro D h; exact h
  | cons e L ih =>
    intro D h
    refine ih _ ?_
    unfold addP
    by_cases hm : pairE e ∈ D
    · rw [if_pos hm]; exact h
    · rw [if_neg hm, List.nodup_append]
      refine ⟨h, by simp, fun a ha b hb hab => ?_⟩
      rw [List.mem_singleton] at hb
      subst hb; subst hab; exact hm ha
theorem react_congr {A B : Pairs} (ha : A.Nodup) (hb : B.Nodup) (h : ∀ p, p ∈ A ↔ p ∈ B) : reactAV A = reactAV B := by
  have hp : A.Perm B := (List.perm_ext_iff_of_nodup ha hb).2 h
  have ht : textsL A = textsL B := ltb_unique (textsL_spec A).1 (textsL_spec B).1 fun z => by
    rw [(textsL_spec A).2, (textsL_spec B).2]
    exact (hp.map fun p => p.1).mem_iff
  have hc : ∀ t, cntAV A t = cntAV B t := fun t => by
    unfold cntAV cnt
    rw [(hp.filter fun p => p.1 == t).length_eq]
  unfold reactAV reactL
  rw [ht]
  congr 1
  exact List.map_congr_left fun t _ => hc t
theorem sum_rev {l : List Evt} (h : UniqE l) (id : Int) : sumAV (sumOf l.reverse id) = sumAV (sumOf l id) := by
  rw [sum_eq, sum_eq]
  unfold rsumOf
  rw [onceL_uniq h, onceL_uniq (uniq_rev h), rget_uniq h, rget_uniq (uniq_rev h), getE_rev h]
  cases getE l id with
  | none => rfl
  | some r =>
    simp only [rel_rev, own_rev, latest_rev, List.length_reverse]
    unfold sumAV sumc
    simp only []
    rw [react_congr (pairsR_nodup _) (pairsR_nodup (relL l 4 id)) fun p => by rw [mem_pairsR, mem_pairsR]; simp only [List.mem_reverse]]
theorem edit_rev {l : List Evt} (h : UniqE l) (id : Int) : (sumOf l.reverse id).edit = (sumOf l id).edit := by
  have := sum_rev h id
  unfold sumAV sumc at this
  injection this with h1
  injection h1 with h2
  unfold I at h2
  injection h2 with h3
  injection h3
theorem show_rev {l : List Evt} (h : UniqE l) (id : Int) : showOf l.reverse id = showOf l id := by
  unfold showOf
  rw [onceL_uniq h, onceL_uniq (uniq_rev h), getE_rev h]
  cases getE l id with
  | none => rfl
  | some r => simp only [edit_rev h, getE_rev h]
theorem drop_rev {l : List Evt} {q : Nat} (h : q < l.length) : (l.drop q).reverse = (l.drop (q + 1)).reverse ++ [l[q]] := by
  rw [List.drop_eq_getElem_cons h, List.reverse_cons]
set_option maxRecDepth 8000 in
set_option maxHeartbeats 4000000 in
theorem order36_law (l : List Evt) (id : Int) : AC Try.prog 7 [evs l, I id] (B true) := by
  refine AC.of_body Try.func7 rfl rfl Try.ntmps7 (congrArg Array.toList Try.results7) (by simp) (pures2 (pure_evs _) (pure_I _)) (pure_B _) fun w S' => AWp.of_vc [20] ?_
  simp [go_sem]
  refine CallSem.pure (few36_ac l) (by simp [go_sem]) ?_
  cases hF : few36 l with
  | false =>
    simp [go_sem]
    refine CallSem.pure lives36_ac (by simp [go_sem]) ?_
    simp [go_sem]
    refine PostR.ret ?_
    simp [go_sem]
  | true =>
    have h40 := few_len hF
    simp [go_sem]
    refine CallSem.pure (single36_ac l) (by simp [go_sem]) ?_
    cases hS : single36 l with
    | false =>
      simp [go_sem]
      refine CallSem.pure lives36_ac (by simp [go_sem]) ?_
      simp [go_sem]
      refine PostR.ret ?_
      simp [go_sem]
    | true =>
      have hU := single_uniq hS
      have hpl := sum_pairs_len l id
      have hw0 : IntKind.i64.wrap ((l.length : Int) - 1) = (l.length : Int) - 1 := wrap_i64 (by omega) (by omega)
      simp [go_sem, hw0]
      refine AWp.loop_vc [] (fun m s => ∃ k v : Nat, k ≤ l.length ∧ m = k ∧ s.σ 0 = evs l ∧ s.σ 1 = I id ∧ s.σ 6 = I ((k : Int) - 1) ∧ s.σ 5 = .ref 20 v ∧ s.ver 20 = v ∧ s.h 20 = .arr 34 29 ((l.drop k).reverse.map ev)) l.length ⟨l.length, by simp [go_sem]⟩ ?_
      rintro m s ⟨k, v, hk, rfl, h0, h1, h6, h5, hv5, hh5⟩
      have hdl : (l.drop m).reverse.length ≤ 40 := by simp; omega
      cases hm : m with
      | succ q =>
        subst hm
        have hlt : q < l.length := by omega
        have hdr := drop_rev hlt
        have hq : ((q + 1 : Nat) : Int) - 1 = (q : Int) := by omega
        have hwq : IntKind.i64.wrap ((q : Int) - 1) = (q : Int) - 1 := wrap_i64 (by omega) (by omega)
        rw [hq] at h6
        generalize (l.drop (q + 1)).reverse = T at hh5 hdr hdl
        simp [go_sem, h0, h1, h6, h5, hv5, hh5, hlt, hwq]
        exact ⟨⟨by omega, by omega⟩, q, by omega, q, by omega, rfl, rfl, by rw [← List.map_drop, ← List.map_reverse, hdr]; simp; rfl⟩
      | zero =>
        subst hm
        have hq : ((0 : Nat) : Int) - 1 = -1 := rfl
        rw [hq] at h6
        rw [List.drop_zero] at hh5
        have hs := show_ac l id (by omega)
        have hs2 := show_ac l.reverse id (by simp; omega)
        rw [show_rev hU] at hs2
        have hm1 := sum_ac l id (by omega)
        have hm2 := sum_ac l.reverse id (by simp; omega)
        rw [sum_rev hU] at hm2
        have hsm := rsame36_ac (sumOf l id) (by omega)
        unfold sumAV sumc reactAV at hm1 hm2 hsm
        generalize l.reverse = K at hs2 hm2 hh5
        simp [go_sem, h0, h1, h6, h5, hv5, hh5]
        refine CallSem.pure hs (by simp [go_sem]) ?_
        simp [go_sem, h0, h1, h6, h5, hv5, hh5]
        refine CallSem.freeze 20 ?_
        simp [go_sem, h0, h1, h6, h5, hv5, hh5]
        refine CallSem.pure hs2 (by simp [go_sem]) ?_
        simp [go_sem, h0, h1, h6, h5, hv5, hh5]
        refine CallSem.pure hm1 (by simp [go_sem]) ?_
        simp [go_sem, h0, h1, h6, h5, hv5, hh5]
        refine CallSem.pure hm2 (by simp [go_sem]) ?_
        simp [go_sem, h0, h1, h6, h5, hv5, hh5]
        refine CallSem.pure hsm (by simp [go_sem]) ?_
        simp [go_sem]
        refine CallSem.pure lives36_ac (by simp [go_sem]) ?_
        simp [go_sem]
        refine PostR.ret ?_
        simp [go_sem]

end Go.Proofs.Ytckoolpjphhfdaa

-- part R23
namespace Go.Proofs.Ytckoolpjphhfdaa
open Go Go.Abs Go.Proofs
set_option linter.unusedSimpArgs false
set_option linter.unusedVariables false
def toReact (id : Int) (e : Evt) : Bool := decide (e.content.target = id ∧ e.kind = 12)
def toThread (id : Int) (e : Evt) : Bool := decide (e.content.target = id ∧ e.kind = 11 ∧ e.content.thread = true)
def nReact (id : Int) (l : List Evt) : Nat := l.countP (toReact id)
def nThread (id : Int) (l : List Evt) : Nat := l.countP (toThread id)
theorem count_succ {l : List Evt} {k : Nat} (p : Evt → Bool) (hk : k < l.length) : (l.take (k + 1)).countP p = (l.take k).countP p + if p l[k] = true then 1 else 0 := by
  rw [List.take_succ_eq_append_getElem hk, List.countP_append, List.countP_singleton]
theorem relL_count {rel id : Int} {p : Evt → Bool} (h : ∀ e, isRel rel id e = true → p e = true) (l : List Evt) : (relL l rel id).length ≤ l.countP p := by
  unfold relL
  rw [← List.countP_eq_length_filter]
  exact List.countP_mono_left fun x _ => h x
theorem rel4_react (id : Int) (e : Evt) (h : isRel 4 id e = true) : toReact id e = true := by
  unfold isRel at h; unfold toReact
  rw [decide_eq_true_eq] at *
  have hf := rel_fields e
  exact ⟨by rw [← hf.1 (by omega), h.2], hf.2.1 h.1⟩
theorem rel2_thread (id : Int) (e : Evt) (h : isRel 2 id e = true) : toThread id e = true := by
  unfold isRel at h; unfold toThread
  rw [decide_eq_true_eq] at *
  have hf := rel_fields e
  exact ⟨by rw [← hf.1 (by omega), h.2], hf.2.2.2 h.1⟩
theorem count_facts {l : List Evt} (h : UniqE l) (id : Int) : (sumOf l id).pairs.length ≤ nReact id l ∧ 0 ≤ (sumOf l id).thread ∧ (sumOf l id).thread ≤ nThread id l ∧ (¬ 0 < (sumOf l id).thread → (sumOf l id).last = 0) := by
  rw [sum_eq]
  unfold rsumOf
  rw [onceL_uniq h]
  cases rget l id with
  | none => simp
  | some r =>
    simp only []
    have h1 := pairsR_len (relL l 4 id)
    have h2 := relL_count (rel4_react id) l
    have h3 := relL_count (rel2_thread id) l
    refine ⟨by unfold nReact; omega, by omega, by unfold nThread; omega, fun h => ?_⟩
    have : relL l 2 id = [] := List.eq_nil_of_length_eq_zero (by omega)
    rw [this]; rfl
theorem sum_one (t : Bytes) : ∀ T : List Bytes, T.Nodup → (T.map fun x => if t = x then 1 else 0).sum ≤ 1
  | [], _ => by simp
  | x :: T, h => by
    rw [List.nodup_cons] at h
    have ih := sum_one t T h.2
    rw [List.map_cons, List.sum_cons]
    by_cases hx : t = x
    · subst hx
      rw [if_pos rfl]
      have : (T.map fun x => if t = x then 1 else 0).sum = 0 := by
        have hz : (T.map fun x => if t = x then 1 else 0) = T.map fun _ => 0 := List.map_congr_left fun y hy => by rw [if_neg (fun he : t = y => h.1 (by rw [he]; exact hy))]
        rw [hz]
        clear hz ih h
        induction T with
        | nil => rfl
        | cons a T ih => simpa using ih
      omega
    · rw [if_neg hx]; omega
theorem cnt_cons (p : Bytes × Bytes) (D : Pairs) (t : Bytes) : cnt (p :: D) t = (if p.1 = t then 1 else 0) + cnt D t := by
  unfold cnt
  rw [List.filter_cons]
  by_cases h : p.1 = t
  · have : (p.1 == t) = true := by simpa using h
    rw [this, if_pos rfl, if_pos h, List.length_cons]; omega
  · have : (p.1 == t) = false := by simpa using h
    rw [this, if_neg (by simp), if_neg h]; omega
theorem sum_add (f g : Bytes → Nat) : ∀ T : List Bytes, (T.map fun x => f x + g x).sum = (T.map f).sum + (T.map g).sum
  | [] => rfl
  | x :: T => by simp only [List.map_cons, List.sum_cons, sum_add f g T]; omega
theorem cnt_sum {T : List Bytes} (h : T.Nodup) : ∀ D : Pairs, (T.map (cnt D)).sum ≤ D.length
  | [] => by
    have hz : T.map (cnt []) = T.map fun _ => 0 := List.map_congr_left fun y _ => rfl
    rw [hz]
    clear hz h
    induction T with
    | nil => simp
    | cons a T ih => simpa using ih
  | p :: D => by
    have ih := cnt_sum h D
    have hz : T.map (cnt (p :: D)) = T.map fun t => (if p.1 = t then 1 else 0) + cnt D t := List.map_congr_left fun y _ => cnt_cons p D y
    have := sum_one p.1 T h
    rw [hz, sum_add, List.length_cons]; omega
def sumTo (D : Pairs) (k : Nat) : Nat := (((textsL D).take k).map (cnt D)).sum
theorem sumTo_succ {D : Pairs} {k : Nat} (h : k < (textsL D).length) : sumTo D (k + 1) = sumTo D k + cnt D (textsL D)[k] := by
  unfold sumTo
  rw [List.take_succ_eq_append_getElem h, List.map_append, List.sum_append]; simp
theorem sumTo_le (D : Pairs) (k : Nat) : sumTo D k ≤ D.length := by
  have irr : ∀ x, ¬ LtB x x := fun x hx => by unfold LtB at hx; rw [bl_irrefl] at hx; cases hx
  refine cnt_sum ?_ D
  exact List.Sublist.nodup (List.take_sublist _ _) ((textsL_spec D).1.imp fun {x y} (hxy : LtB x y) (he : x = y) => irr y (he ▸ hxy))
theorem texts_lt {D : Pairs} {q : Nat} (h : q + 1 < (textsL D).length) : Op.bytesLess (textsL D)[q] (textsL D)[q + 1] = true :=
  List.pairwise_iff_getElem.1 (textsL_spec D).1 q (q + 1) (by omega) h (by omega)
theorem texts_pos {D : Pairs} {q : Nat} (h : q < (textsL D).length) : 0 < cnt D (textsL D)[q] :=
  Nat.pos_of_ne_zero (cnt_pos.2 (((textsL_spec D).2 _).1 (List.getElem_mem h)))
theorem react_get3 {D : Pairs} {R : List AV} (h : reactL D = R) (q : Nat) (hq : q < (textsL D).length) : R[q]'(by rw [← h, reactL_len]; exact hq) = .agg [S (textsL D)[q], I (cnt D (textsL D)[q])] := by
  subst h
  exact reactL_get hq
set_option maxRecDepth 8000 in
set_option maxHeartbeats 4000000 in
theorem counts36_law (l : List Evt) (id : Int) : AC Try.prog 9 [evs l, I id] (B true) := by
  refine AC.of_body Try.func9 rfl rfl Try.ntmps9 (congrArg Array.toList Try.results9) (by simp) (pures2 (pure_evs _) (pure_I _)) (pure_B _) fun w S' => AWp.of_vc [] ?_
  simp [go_sem]
  refine CallSem.pure (few36_ac l) (by simp [go_sem]) ?_
  cases hF : few36 l with
  | false =>
    simp [go_sem]
    refine CallSem.pure lives36_ac (by simp [go_sem]) ?_
    simp [go_sem]
    refine PostR.ret ?_
    simp [go_sem]
  | true =>
    have h40 := few_len hF
    simp [go_sem]
    refine CallSem.pure (single36_ac l) (by simp [go_sem]) ?_
    cases hS : single36 l with
    | false =>
      simp [go_sem]
      refine CallSem.pure lives36_ac (by simp [go_sem]) ?_
      simp [go_sem]
      refine PostR.ret ?_
      simp [go_sem]
    | true =>
      have hU := single_uniq hS
      have hpl := sum_pairs_len l id
      obtain ⟨f1, f2, f3, f4⟩ := count_facts hU id
      have hm := sum_ac l id (by omega)
      generalize sumOf l id = A at hpl f1 f2 f3 f4 hm
      have hlen : l.length ≤ maxLen := by unfold maxLen; omega
      have hnr : nReact id l ≤ l.length := List.countP_le_length
      have hnt : nThread id l ≤ l.length := List.countP_le_length
      simp [go_sem]
      refine CallSem.pure hm (by simp [go_sem]) ?_
      simp [go_sem, sumAV, sumc]
      refine AWp.loop_vc [] (fun m s => ∃ k : Nat, k ≤ l.length ∧ m = l.length - k ∧ s.σ 0 = evs l ∧ s.σ 1 = I id ∧ s.σ 8 = I k ∧ s.σ 6 = I (nReact id (l.take k)) ∧ s.σ 7 = I (nThread id (l.take k)) ∧ s.σ 5 = .rptr 5 1 0 0 ∧ s.ver 5 = 1 ∧ s.h 5 = .box [I A.edit, reactAV A.pairs, I A.thread, I A.last]) l.length ⟨0, by simp [go_sem, nReact, nThread]⟩ ?_
      rintro m s ⟨k, hk, rfl, h0, h1, h8, h6, h7, h5, hv5, hh5⟩
      by_cases hlt : k < l.length
      · have c1 := count_succ (toReact id) hlt
        have c2 := count_succ (toThread id) hlt
        have b1 : nReact id (l.take k) ≤ 40 := by have : nReact id (l.take k) ≤ (l.take k).length := List.countP_le_length; rw [List.length_take] at this; omega
        have b2 : nThread id (l.take k) ≤ 40 := by have : nThread id (l.take k) ≤ (l.take k).length := List.countP_le_length; rw [List.length_take] at this; omega
        change nReact id (l.take (k + 1)) = nReact id (l.take k) + _ at c1
        change nThread id (l.take (k + 1)) = nThread id (l.take k) + _ at c2
        generalize nReact id (l.take k) = x at h6 c1 b1
        generalize nThread id (l.take k) = y at h7 c2 b2
        have w1 : IntKind.i64.wrap ((x : Int) + 1) = (x : Int) + 1 := wrap_i64 (by omega) (by omega)
        have w2 : IntKind.i64.wrap ((y : Int) + 1) = (y : Int) + 1 := wrap_i64 (by omega) (by omega)
        unfold toReact at c1
        unfold toThread at c2
        by_cases t1 : l[k].content.target = id
        · by_cases t2 : l[k].kind = 12
          · rw [if_pos (by simp [t1, t2])] at c1
            rw [if_neg (by simp [t1, t2])] at c2
            simp [go_sem, h0, h1, h8, h6, h7, h5, hv5, hh5, hlt, t1, t2, w1, wrap_succ hlt hlen]
            exact ⟨l.length - (k + 1), by omega, k + 1, by omega, rfl, rfl, by rw [c1]; simp, by rw [c2]; simp⟩
          · rw [if_neg (by simp [t1, t2])] at c1
            by_cases t3 : l[k].kind = 11
            · cases t4 : l[k].content.thread with
              | true =>
                rw [if_pos (by simp [t1, t3, t4])] at c2
                simp [go_sem, h0, h1, h8, h6, h7, h5, hv5, hh5, hlt, t1, t3, t4, w2, wrap_succ hlt hlen]
                exact ⟨l.length - (k + 1), by omega, k + 1, by omega, rfl, rfl, by rw [c1]; simp, by rw [c2]; simp⟩
              | false =>
                rw [if_neg (by simp [t1, t3, t4])] at c2
                simp [go_sem, h0, h1, h8, h6, h7, h5, hv5, hh5, hlt, t1, t3, t4, w2, wrap_succ hlt hlen]
                exact ⟨l.length - (k + 1), by omega, k + 1, by omega, rfl, rfl, by rw [c1]; simp, by rw [c2]; simp⟩
            · rw [if_neg (by simp [t1, t3])] at c2
              simp [go_sem, h0, h1, h8, h6, h7, h5, hv5, hh5, hlt, t1, t2, t3, wrap_succ hlt hlen]
              exact ⟨l.length - (k + 1), by omega, k + 1, by omega, rfl, rfl, by rw [c1]; simp, by rw [c2]; simp⟩
        · rw [if_neg (by simp [t1])] at c1 c2
          simp [go_sem, h0, h1, h8, h6, h7, h5, hv5, hh5, hlt, t1, wrap_succ hlt hlen]
          exact ⟨l.length - (k + 1), by omega, k + 1, by omega, rfl, rfl, by rw [c1]; simp, by rw [c2]; simp⟩
      · obtain rfl : k = l.length := by omega
        rw [List.take_of_length_le (Nat.le_refl _)] at h6 h7
        generalize nReact id l = x at h6 f1 hnr
        generalize nThread id l = y at h7 f3 hnt
        have hrl := reactL_len A.pairs
        have htl := textsL_len A.pairs
        unfold reactAV at hh5
        generalize hR : reactL A.pairs = R at hrl hh5
        have hget := react_get3 hR
        have hmR : R.length ≤ maxLen := by unfold maxLen; omega
        simp [go_sem, h0, h1, h8, h6, h7, h5, hv5, hh5]
        refine AWp.loop_vc [] (fun m s => ∃ k : Nat, k ≤ R.length ∧ m = R.length - k ∧ s.σ 10 = I k ∧ s.σ 9 = I (sumTo A.pairs k) ∧ s.σ 6 = I x ∧ s.σ 7 = I y ∧ s.σ 5 = .rptr 5 1 0 0 ∧ s.ver 5 = 1 ∧ s.h 5 = .box [I A.edit, .lst 2 R, I A.thread, I A.last]) R.length ⟨0, by simp [go_sem, h6, h7, h5, hv5, hh5, sumTo]⟩ ?_
        clear h0 h1 h8 h6 h7 h5 hv5 hh5
        rintro m s ⟨k, hk, rfl, h10, h9, h6, h7, h5, hv5, hh5⟩
        by_cases hlt : k < R.length
        · have hlt' : k < (textsL A.pairs).length := by omega
          have hg := hget k hlt'
          have hs1 := sumTo_succ hlt'
          have hs2 := sumTo_le A.pairs (k + 1)
          have hp := texts_pos hlt'
          have hcl := cnt_le A.pairs (textsL A.pairs)[k]
          have hlt1 : ∀ q (hq : q + 1 = k), Op.bytesLess ((textsL A.pairs)[q]'(by omega)) (textsL A.pairs)[k] = true := fun q hq => by subst hq; exact texts_lt hlt'
          have n1 : ¬ (cnt A.pairs (textsL A.pairs)[k] : Int) < 1 := by omega
          have n2 : ¬ (x : Int) < (cnt A.pairs (textsL A.pairs)[k] : Int) := by omega
          have hw : IntKind.i64.wrap ((sumTo A.pairs k : Int) + (cnt A.pairs (textsL A.pairs)[k] : Int)) = (sumTo A.pairs k : Int) + (cnt A.pairs (textsL A.pairs)[k] : Int) := wrap_i64 (by omega) (by omega)
          simp [go_sem, h10, h9, h6, h7, h5, hv5, hh5, hlt]
          refine AWp.drawAll rfl (by kernel_rfl) ?_
          have hwk := wrap_succ hlt hmR
          by_cases hk0 : k = 0
          · subst hk0
            simp [go_sem, h10, h9, h6, h7, h5, hv5, hh5, hlt, hg, n1, n2, hw, hwk]
            exact ⟨R.length - 1, by omega, 1, by omega, rfl, rfl, by rw [hs1]; simp⟩
          · obtain ⟨q, hkq⟩ : ∃ q, q + 1 = k := ⟨k - 1, by omega⟩
            have hb := hlt1 q hkq
            have hgq := hget q (by omega)
            have hwq : IntKind.i64.wrap ((k : Int) - 1) = (q : Int) := by rw [wrap_i64 (by omega) (by omega)]; omega
            have hqR : q < R.length := by omega
            have hp0 : (0 : Int) < (k : Int) := by omega
            have hp1 : 0 < k := by omega
            generalize (textsL A.pairs)[k] = b at hg hs1 hp hcl hb n1 n2 hw
            generalize (textsL A.pairs)[q] = a at hgq hb
            simp [go_sem, h10, h9, h6, h7, h5, hv5, hh5, hlt, hg, hgq, n1, n2, hw, hwq, hqR, hp0, hp1, hk0, hb, hwk]
            exact ⟨R.length - (k + 1), by omega, k + 1, by omega, rfl, rfl, by rw [hs1]; simp⟩
        · obtain rfl : k = R.length := by omega
          have hs2 := sumTo_le A.pairs R.length
          have n1 : (sumTo A.pairs R.length : Int) ≤ (x : Int) := by omega
          generalize sumTo A.pairs R.length = z at h9 n1
          have n2 : z ≤ x := by omega
          by_cases hp : 0 < A.thread
          · simp [go_sem, h10, h9, h6, h7, h5, hv5, hh5, n1, n2, f2, f3, hp]
            refine CallSem.pure lives36_ac (by simp [go_sem]) ?_
            simp [go_sem]
            refine PostR.ret ?_
            simp [go_sem]
          · simp [go_sem, h10, h9, h6, h7, h5, hv5, hh5, n1, n2, f2, f3, hp, f4 hp]
            refine CallSem.pure lives36_ac (by simp [go_sem]) ?_
            simp [go_sem]
            refine PostR.ret ?_
            simp [go_sem]

end Go.Proofs.Ytckoolpjphhfdaa

-- part Tp
namespace Go.Proofs.Ytckoolpjphhfdaa
open Go Go.Abs
theorem opI : Opens Try.prog 3 (fun n => [I n]) (fun n => IntKind.i64.min ≤ n ∧ n ≤ IntKind.i64.max) := opens_int (by kernel_rfl)
theorem opB : Opens Try.prog 4 (fun n => [B n]) (fun _ => True) := opens_bool (by kernel_rfl)
theorem opS : Opens Try.prog 9 (fun n => [S n]) (fun n => n.length ≤ maxLen) := opens_string (by kernel_rfl)
theorem opInts : Opens Try.prog 23 (fun l => [ints l]) (fun l => ∀ n ∈ l, IntKind.i64.min ≤ n ∧ n ≤ IntKind.i64.max) := opens_slice (by kernel_rfl) (by kernel_rfl) (by decide) opI I (fun _ => rfl)
end Go.Proofs.Ytckoolpjphhfdaa

-- part Te
namespace Go.Proofs.Ytckoolpjphhfdaa
open Go Go.Abs
theorem opStrsE : Opens Try.prog 24 (fun l => [strs l]) (fun _ => True) := (opens_slice (by kernel_rfl) (by kernel_rfl) (by decide) opS S (fun _ => rfl)).map id (fun _ _ => rfl) (fun _ _ => trivial)
theorem opIntsE : Opens Try.prog 23 (fun l => [ints l]) (fun _ => True) := opInts.map id (fun _ _ => rfl) (fun _ _ => trivial)
theorem opKindE : Opens Try.prog 22 (fun n => [I n]) (fun _ => True) := (opens_int (by kernel_rfl)).map id (fun _ _ => rfl) (fun _ _ => trivial)
theorem opLevel : Opens Try.prog 134 lvc (fun _ => True) := by
  have h := opens_struct Try.underlying134 (by kernel_rfl) (opensFs_cons rfl (by kernel_rfl) (by intros; rfl) opS (opensFs_cons rfl (by kernel_rfl) (by intros; rfl) opI opensFs_nil))
  exact h.map (fun x => ⟨x.1, x.2.1⟩) (fun _ _ => rfl) (fun _ _ => trivial)
theorem opKLevel : Opens Try.prog 136 klc (fun _ => True) := by
  have h := opens_struct Try.underlying136 (by kernel_rfl) (opensFs_cons rfl (by kernel_rfl) (by intros; rfl) opKindE (opensFs_cons rfl (by kernel_rfl) (by intros; rfl) opI opensFs_nil))
  exact h.map (fun x => ⟨x.1, x.2.1⟩) (fun _ _ => rfl) (fun _ _ => trivial)
theorem opUsers : Opens Try.prog 25 (fun l : List Level => [.lst 2 (l.map fun u => .agg (lvc u))]) (fun _ => True) := (opens_slice (by kernel_rfl) (by kernel_rfl) (by decide) opLevel (fun u : Level => .agg (lvc u)) (fun _ => rfl)).map id (fun _ _ => rfl) (fun _ _ => trivial)
theorem opKinds : Opens Try.prog 26 (fun l : List KindLevel => [.lst 2 (l.map fun u => .agg (klc u))]) (fun _ => True) := (opens_slice (by kernel_rfl) (by kernel_rfl) (by decide) opKLevel (fun u : KindLevel => .agg (klc u)) (fun _ => rfl)).map id (fun _ _ => rfl) (fun _ _ => trivial)
theorem opLevels : Opens Try.prog 28 lvsc (fun _ => True) := by
  have h := opens_struct Try.underlying28 (by kernel_rfl) (opensFs_cons rfl (by kernel_rfl) (by intros; rfl) opUsers (opensFs_cons rfl (by kernel_rfl) (by intros; rfl) opKinds (opensFs_cons rfl (by kernel_rfl) (by intros; rfl) opI (opensFs_cons rfl (by kernel_rfl) (by intros; rfl) opI (opensFs_cons rfl (by kernel_rfl) (by intros; rfl) opI (opensFs_cons rfl (by kernel_rfl) (by intros; rfl) opI (opensFs_cons rfl (by kernel_rfl) (by intros; rfl) opI (opensFs_cons rfl (by kernel_rfl) (by intros; rfl) opI (opensFs_cons rfl (by kernel_rfl) (by intros; rfl) opI opensFs_nil)))))))))
  exact h.map (fun x => ⟨x.1, x.2.1, x.2.2.1, x.2.2.2.1, x.2.2.2.2.1, x.2.2.2.2.2.1, x.2.2.2.2.2.2.1, x.2.2.2.2.2.2.2.1, x.2.2.2.2.2.2.2.2.1⟩) (fun _ _ => rfl) (fun _ _ => trivial)
theorem opContent : Opens Try.prog 30 ctc (fun _ => True) := by
  have h := opens_struct Try.underlying30 (by kernel_rfl) (opensFs_cons rfl (by kernel_rfl) (by intros; rfl) opS (opensFs_cons rfl (by kernel_rfl) (by intros; rfl) opI (opensFs_cons rfl (by kernel_rfl) (by intros; rfl) opI (opensFs_cons rfl (by kernel_rfl) (by intros; rfl) opB (opensFs_cons rfl (by kernel_rfl) (by intros; rfl) opS (opensFs_cons rfl (by kernel_rfl) (by intros; rfl) opStrsE (opensFs_cons rfl (by kernel_rfl) (by intros; rfl) opStrsE (opensFs_cons (s1 := 9) rfl (by kernel_rfl) (by intros; rfl) opLevels opensFs_nil))))))))
  exact h.map (fun x => ⟨x.1, x.2.1, x.2.2.1, x.2.2.2.1, x.2.2.2.2.1, x.2.2.2.2.2.1, x.2.2.2.2.2.2.1, x.2.2.2.2.2.2.2.1⟩) (fun _ _ => rfl) (fun _ _ => trivial)
theorem opSig : Opens Try.prog 32 (fun x : Sig => [S x.server, I x.sum]) (fun _ => True) := by
  have h := opens_struct Try.underlying32 (by kernel_rfl) (opensFs_cons rfl (by kernel_rfl) (by intros; rfl) opS (opensFs_cons rfl (by kernel_rfl) (by intros; rfl) opI opensFs_nil))
  exact h.map (fun x => ⟨x.1, x.2.1⟩) (fun _ _ => rfl) (fun _ _ => trivial)
theorem opEvt : Opens Try.prog 34 evc (fun _ => True) := by
  have h := opens_struct Try.underlying34 (by kernel_rfl) (opensFs_cons rfl (by kernel_rfl) (by intros; rfl) opI (opensFs_cons rfl (by kernel_rfl) (by intros; rfl) opS (opensFs_cons rfl (by kernel_rfl) (by intros; rfl) opS (opensFs_cons rfl (by kernel_rfl) (by intros; rfl) opKindE (opensFs_cons rfl (by kernel_rfl) (by intros; rfl) opB (opensFs_cons rfl (by kernel_rfl) (by intros; rfl) opS (opensFs_cons rfl (by kernel_rfl) (by intros; rfl) opI (opensFs_cons rfl (by kernel_rfl) (by intros; rfl) opI (opensFs_cons rfl (by kernel_rfl) (by intros; rfl) opIntsE (opensFs_cons rfl (by kernel_rfl) (by intros; rfl) opIntsE (opensFs_cons (s1 := 16) rfl (by kernel_rfl) (by intros; rfl) opContent (opensFs_cons rfl (by kernel_rfl) (by intros; rfl) opI (opensFs_cons (s1 := 2) rfl (by kernel_rfl) (by intros; rfl) opSig opensFs_nil)))))))))))))
  exact h.map (fun x => ⟨x.1, x.2.1, x.2.2.1, x.2.2.2.1, x.2.2.2.2.1, x.2.2.2.2.2.1, x.2.2.2.2.2.2.1, x.2.2.2.2.2.2.2.1, x.2.2.2.2.2.2.2.2.1, x.2.2.2.2.2.2.2.2.2.1, x.2.2.2.2.2.2.2.2.2.2.1, x.2.2.2.2.2.2.2.2.2.2.2.1, x.2.2.2.2.2.2.2.2.2.2.2.2.1⟩) (fun _ _ => rfl) (fun _ _ => trivial)
theorem opEvts : Opens Try.prog 40 (fun l => [evs l]) (fun _ => True) := (opens_slice (by kernel_rfl) (by kernel_rfl) (by decide) opEvt ev (fun _ => rfl)).map id (fun _ _ => rfl) (fun _ _ => trivial)
end Go.Proofs.Ytckoolpjphhfdaa
