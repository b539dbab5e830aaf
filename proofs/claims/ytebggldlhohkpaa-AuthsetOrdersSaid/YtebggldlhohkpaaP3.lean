/- Plain laws of chapter 15: what the program's Fits answers is what the reference's answers; a right Auth is used whole. No condition. -/
import Derived.Test.YtebggldlhohkpaaA8
import Derived.Test.YtebggldlhohkpaaP2
namespace Go.Proofs.Ytebggldlhohkpaa
open Go Go.Abs
theorem keysOf_adj (e : Evt) : adj (keysOf e) = true := by
  have h0 : adj ([] : List EntD) = true := rfl
  unfold keysOf
  split
  · rfl
  · split
    · split
      · exact adj_set (adj_set (adj_set (adj_set (adj_set h0 _ _ _) _ _ _) _ _ _) _ _ _) _ _ _
      · exact adj_set (adj_set (adj_set (adj_set h0 _ _ _) _ _ _) _ _ _) _ _ _
    · exact adj_set (adj_set (adj_set h0 _ _ _) _ _ _) _ _ _
/-- Two keys. -/
def Key2 (a b : EntD) : Prop := ¬ (a.kind = b.kind ∧ a.key = b.key)
/-- Two events' keys. -/
def Fits2 (a b : Evt) : Prop := ¬ (a.kind = b.kind ∧ a.key = b.key)
theorem keysOf_dist (e : Evt) : (keysOf e).Pairwise Key2 := (adj_pairwise.1 (keysOf_adj e)).imp fun h => prec_ne h
theorem mem_setOf {s : List EntD} {k : Int} {key : Bytes} {id : Int} {x : EntD} (h : x ∈ setOf s k key id) : x ∈ s ∨ x = ⟨k, key, id⟩ := by
  unfold setOf at h
  rw [List.mem_append, List.mem_cons] at h
  rcases h with h | h | h
  · exact .inl (List.mem_of_mem_take h)
  · exact .inr h
  · exact .inl (List.mem_of_mem_drop h)
theorem isIn_iff {L : List EntD} {k : Int} {key : Bytes} : isIn L k key = true ↔ ∃ x ∈ L, x.kind = k ∧ x.key = key := by
  unfold isIn
  rw [List.any_eq_true]
  exact ⟨fun ⟨x, h, hp⟩ => ⟨x, h, isKey_iff.1 hp⟩, fun ⟨x, h, hp⟩ => ⟨x, h, isKey_iff.2 hp⟩⟩
theorem isIn_none {L : List EntD} {k : Int} {key : Bytes} : isIn L k key = false ↔ ∀ x ∈ L, ¬ (x.kind = k ∧ x.key = key) := by
  rw [← Bool.not_eq_true, isIn_iff]
  exact ⟨fun h x hx hk => h ⟨x, hx, hk⟩, fun h ⟨x, hx, hk⟩ => h x hx hk⟩
theorem isIn_set {s : List EntD} (hs : adj s = true) (k : Int) (key : Bytes) (id : Int) {k' : Int} {key' : Bytes} : isIn (setOf s k key id) k' key' = true ↔ isIn s k' key' = true ∨ (k = k' ∧ key = key') := by
  have hget : ∀ {s : List EntD}, adj s = true → (isIn s k' key' = true ↔ (getOf s k' key').isSome = true) := by
    intro s hs
    rw [getOf_eq hs, isIn_iff]
    unfold rgetOf
    rw [Option.isSome_map, List.find?_isSome]
    exact ⟨fun ⟨x, h, hp⟩ => ⟨x, h, isKey_iff.2 hp⟩, fun ⟨x, h, hp⟩ => ⟨x, h, isKey_iff.1 hp⟩⟩
  by_cases h : k = k' ∧ key = key'
  · obtain ⟨rfl, rfl⟩ := h
    rw [hget (adj_set hs _ _ _), set_get hs]
    simp
  · rw [hget (adj_set hs _ _ _), set_other hs _ _ _ h, ← hget hs]
    simp [h]
theorem keys_create {e : Evt} (h : e.kind ≠ 1) : isIn (keysOf e) 1 [] = true ∧ isIn (keysOf e) 3 [] = true ∧ isIn (keysOf e) 2 e.sender = true := by
  have h0 : adj ([] : List EntD) = true := rfl
  have a1 := adj_set h0 1 [] 0
  have a2 := adj_set a1 3 [] 0
  have a3 := adj_set a2 2 e.sender 0
  have a4 := adj_set a3 2 e.key 0
  have b1 : isIn (setOf [] 1 [] 0) 1 [] = true := (isIn_set h0 1 [] 0).2 (.inr ⟨rfl, rfl⟩)
  have b2 : isIn (setOf (setOf [] 1 [] 0) 3 [] 0) 1 [] = true ∧ isIn (setOf (setOf [] 1 [] 0) 3 [] 0) 3 [] = true := ⟨(isIn_set a1 _ _ _).2 (.inl b1), (isIn_set a1 _ _ _).2 (.inr ⟨rfl, rfl⟩)⟩
  have b3 : isIn (setOf (setOf (setOf [] 1 [] 0) 3 [] 0) 2 e.sender 0) 1 [] = true ∧ isIn (setOf (setOf (setOf [] 1 [] 0) 3 [] 0) 2 e.sender 0) 3 [] = true ∧ isIn (setOf (setOf (setOf [] 1 [] 0) 3 [] 0) 2 e.sender 0) 2 e.sender = true :=
    ⟨(isIn_set a2 _ _ _).2 (.inl b2.1), (isIn_set a2 _ _ _).2 (.inl b2.2), (isIn_set a2 _ _ _).2 (.inr ⟨rfl, rfl⟩)⟩
  unfold keysOf
  rw [if_neg h]
  split
  · have b4 := And.intro ((isIn_set a3 2 e.key 0).2 (.inl b3.1)) (And.intro ((isIn_set a3 2 e.key 0).2 (.inl b3.2.1)) ((isIn_set a3 2 e.key 0).2 (.inl b3.2.2)))
    split
    · exact ⟨(isIn_set a4 _ _ _).2 (.inl b4.1), (isIn_set a4 _ _ _).2 (.inl b4.2.1), (isIn_set a4 _ _ _).2 (.inl b4.2.2)⟩
    · exact b4
  · exact b3
theorem keys_kind1 {e : Evt} {x : EntD} (hx : x ∈ keysOf e) (hk : x.kind = 1) : x.key = [] := by
  have h0 : ∀ x ∈ ([] : List EntD), x.kind = 1 → x.key = [] := fun x h => by cases h
  have hstep : ∀ (s : List EntD) (k : Int) (key : Bytes), (∀ x ∈ s, x.kind = 1 → x.key = []) → (k = 1 → key = []) → ∀ x ∈ setOf s k key 0, x.kind = 1 → x.key = [] := by
    intro s k key hs hh x hx hk
    rcases mem_setOf hx with h | rfl
    · exact hs x h hk
    · exact hh hk
  have c1 := hstep _ 1 [] h0 (fun _ => rfl)
  have c2 := hstep _ 3 [] c1 (fun h => by cases h)
  have c3 := hstep _ 2 e.sender c2 (fun h => by cases h)
  have c4 := hstep _ 2 e.key c3 (fun h => by cases h)
  have c5 := hstep _ 4 [] c4 (fun h => by cases h)
  unfold keysOf at hx
  split at hx
  · cases hx
  · split at hx
    · split at hx
      · exact c5 x hx hk
      · exact c4 x hx hk
    · exact c3 x hx hk
/-- Erasing the only element with a property filters it out. -/
theorem erase_filter {α : Type} (p : α → Bool) : ∀ (l : List α), l.Pairwise (fun a b => ¬ (p a = true ∧ p b = true)) → ∀ (k : Nat) (h : k < l.length), p l[k] = true → l.eraseIdx k = l.filter fun x => !p x
  | [], _, k, h, _ => by simp at h
  | x :: l, hl, 0, _, hp => by
    rw [List.pairwise_cons] at hl
    simp only [List.getElem_cons_zero] at hp
    rw [List.eraseIdx_cons_zero, List.filter_cons, hp]
    simp only [Bool.not_true, Bool.false_eq_true, if_false]
    rw [List.filter_eq_self.2 fun a ha => ?_]
    cases hpa : p a
    · rfl
    · exact (hl.1 a ha ⟨hp, hpa⟩).elim
  | x :: l, hl, k + 1, h, hp => by
    rw [List.pairwise_cons] at hl
    simp only [List.getElem_cons_succ] at hp
    have hk : k < l.length := by simpa using h
    have hx : p x = false := by
      cases hpx : p x
      · rfl
      · exact (hl.1 _ (List.getElem_mem hk) ⟨hpx, hp⟩).elim
    rw [List.eraseIdx_cons_succ, List.filter_cons, hx]
    simp only [Bool.not_false, if_true]
    rw [erase_filter p l hl.2 k hk hp]
def restOf (K seen : List EntD) : List EntD := K.filter fun k => !isIn seen k.kind k.key
theorem fitsKey_iff {x : Evt} {k : EntD} : fitsKey x k = true ↔ x.kind = k.kind ∧ x.key = k.key := by
  unfold fitsKey
  rw [Bool.and_eq_true, beq_iff_eq, beq_iff_eq]
theorem isIn_snoc (seen : List EntD) (x : Evt) (k : Int) (key : Bytes) : isIn (seen ++ [⟨x.kind, x.key, 0⟩]) k key = (isIn seen k key || isKey k key ⟨x.kind, x.key, 0⟩) := by
  unfold isIn
  simp only [List.any_append, List.any_cons, List.any_nil, Bool.or_false]
theorem step_eq {K : List EntD} (hK : K.Pairwise Key2) (seen : List EntD) (x : Evt) : dropStep (restOf K seen) x = (rStep K seen x).map (restOf K) := by
  unfold dropStep rStep
  have hiff : (∃ k ∈ restOf K seen, fitsKey x k = true) ↔ isIn K x.kind x.key = true ∧ isIn seen x.kind x.key = false := by
    constructor
    · rintro ⟨k, hk, hf⟩
      have h1 := List.mem_filter.1 hk
      have h2 := fitsKey_iff.1 hf
      refine ⟨isIn_iff.2 ⟨k, h1.1, h2.1.symm, h2.2.symm⟩, ?_⟩
      rw [h2.1, h2.2]
      simpa using h1.2
    · rintro ⟨h1, h2⟩
      obtain ⟨k, hk, hkk, hke⟩ := isIn_iff.1 h1
      exact ⟨k, List.mem_filter.2 ⟨hk, by rw [hkk, hke, h2]; rfl⟩, fitsKey_iff.2 ⟨hkk.symm, hke.symm⟩⟩
  rcases idxI_find (fitsKey x) (restOf K seen) with ⟨hn, hi⟩ | ⟨k, hk, hfk, hi⟩
  · have hno : ¬ (isIn K x.kind x.key = true ∧ isIn seen x.kind x.key = false) := fun h => by
      obtain ⟨k, hk, hf⟩ := hiff.2 h
      have := List.find?_eq_none.1 hn k hk
      exact this hf
    rw [hi, if_pos (by decide), if_pos]
    · rfl
    · cases h1 : isIn K x.kind x.key
      · rfl
      · cases h2 : isIn seen x.kind x.key
        · exact (hno ⟨h1, h2⟩).elim
        · rfl
  · have hp : fitsKey x (restOf K seen)[k] = true := by
      have := List.find?_some hfk
      exact this
    obtain ⟨h1, h2⟩ := hiff.1 ⟨_, List.getElem_mem hk, hp⟩
    rw [hi, if_neg (by omega), if_neg (by rw [h1, h2]; decide)]
    simp only [Int.toNat_natCast, Option.map_some]
    congr 1
    rw [erase_filter (fitsKey x) _ ?_ k hk hp]
    · unfold restOf
      rw [List.filter_filter]
      apply List.filter_congr
      intro a _
      rw [isIn_snoc]
      have : fitsKey x a = isKey a.kind a.key ⟨x.kind, x.key, 0⟩ := by
        apply Bool.eq_iff_iff.2
        rw [fitsKey_iff, isKey_iff]
      rw [this, Bool.not_or, Bool.and_comm]
    · refine (hK.filter _).imp fun {a b} hab hh => hab ?_
      have ha := fitsKey_iff.1 hh.1
      have hb := fitsKey_iff.1 hh.2
      exact ⟨ha.1.symm.trans hb.1, ha.2.symm.trans hb.2⟩
theorem fold_eq {K : List EntD} (hK : K.Pairwise Key2) : ∀ (A : List Evt) (seen : List EntD), A.foldlM dropStep (restOf K seen) = (A.foldlM (rStep K) seen).map (restOf K)
  | [], seen => rfl
  | x :: A, seen => by
    rw [List.foldlM_cons, List.foldlM_cons, step_eq hK seen x]
    cases h : rStep K seen x with
    | none => rfl
    | some s => exact fold_eq hK A s
/-- What the reference's walk through an Auth says when it succeeds. -/
theorem fold_some {K : List EntD} : ∀ (A : List Evt) (seen s : List EntD), A.foldlM (rStep K) seen = some s →
    (∀ k key, isIn s k key = true ↔ isIn seen k key = true ∨ ∃ x ∈ A, x.kind = k ∧ x.key = key) ∧ (∀ x ∈ A, isIn K x.kind x.key = true ∧ isIn seen x.kind x.key = false) ∧ A.Pairwise Fits2
  | [], seen, s, h => by
    cases h
    exact ⟨fun k key => by simp, fun x hx => (by cases hx), List.Pairwise.nil⟩
  | x :: A, seen, s, h => by
    rw [List.foldlM_cons] at h
    cases hs : rStep K seen x with
    | none => rw [hs] at h; cases h
    | some s1 =>
      rw [hs] at h
      obtain ⟨h1, h2, h3⟩ := fold_some A s1 s h
      have hstep := hs
      unfold rStep at hstep
      split at hstep
      · cases hstep
      rename_i hc
      cases hstep
      have hc1 : isIn K x.kind x.key = true ∧ isIn seen x.kind x.key = false := by
        cases ha : isIn K x.kind x.key <;> cases hb : isIn seen x.kind x.key <;> simp [ha, hb] at hc ⊢
      refine ⟨fun k key => ?_, fun y hy => ?_, List.pairwise_cons.2 ⟨fun y hy hk => ?_, h3⟩⟩
      · rw [h1 k key, isIn_snoc, Bool.or_eq_true, isKey_iff]
        simp only [List.mem_cons, exists_eq_or_imp]
        constructor
        · rintro ((h | h) | h)
          · exact .inl h
          · exact .inr (.inl h)
          · exact .inr (.inr h)
        · rintro (h | h | h)
          · exact .inl (.inl h)
          · exact .inl (.inr h)
          · exact .inr h
      · rcases List.mem_cons.1 hy with rfl | hy
        · exact hc1
        · refine ⟨(h2 y hy).1, ?_⟩
          have := (h2 y hy).2
          rw [isIn_snoc, Bool.or_eq_false_iff] at this
          exact this.1
      · have := (h2 y hy).2
        rw [isIn_snoc, Bool.or_eq_false_iff] at this
        have h4 : isKey y.kind y.key ⟨x.kind, x.key, 0⟩ = true := isKey_iff.2 ⟨hk.1, hk.2⟩
        rw [h4] at this
        cases this.2
/-- And it succeeds where the keys are among the keys, each once. -/
theorem fold_ok {K : List EntD} : ∀ (A : List Evt) (seen : List EntD), (∀ x ∈ A, isIn K x.kind x.key = true ∧ isIn seen x.kind x.key = false) → A.Pairwise Fits2 → ∃ s, A.foldlM (rStep K) seen = some s
  | [], seen, _, _ => ⟨seen, rfl⟩
  | x :: A, seen, h, hp => by
    rw [List.pairwise_cons] at hp
    have hx := h x (List.mem_cons_self ..)
    have hs : rStep K seen x = some (seen ++ [⟨x.kind, x.key, 0⟩]) := by
      unfold rStep; rw [hx.1, hx.2]; rfl
    rw [List.foldlM_cons, hs]
    refine fold_ok A _ (fun y hy => ⟨(h y (List.mem_cons_of_mem _ hy)).1, ?_⟩) hp.2
    rw [isIn_snoc, (h y (List.mem_cons_of_mem _ hy)).2, Bool.false_or]
    cases hk : isKey y.kind y.key ⟨x.kind, x.key, 0⟩
    · rfl
    · exact (hp.1 y hy (isKey_iff.1 hk)).elim
theorem fits_eq (l : List Evt) (e : Evt) : fitsOf l e = rfitsOf l e := by
  unfold fitsOf rfitsOf
  split
  · rfl
  split
  · rfl
  have hf := fold_eq (keysOf_dist e) (ofIds l e.auth) []
  have hr : restOf (keysOf e) [] = keysOf e := by unfold restOf isIn; simp
  rw [hr] at hf
  rw [hf]
  cases hs : (ofIds l e.auth).foldlM (rStep (keysOf e)) [] with
  | none => rfl
  | some s =>
    obtain ⟨h1, h2, _⟩ := fold_some _ _ _ hs
    have h1' := h1 1 []
    have hany : ((ofIds l e.auth).any fun x => x.kind == 1) = isIn s 1 [] := by
      apply Bool.eq_iff_iff.2
      rw [List.any_eq_true, h1']
      constructor
      · rintro ⟨x, hx, hk⟩
        refine .inr ⟨x, hx, by simpa using hk, ?_⟩
        obtain ⟨k, hkm, hkk, hke⟩ := isIn_iff.1 (h2 x hx).1
        rw [← hke]
        exact keys_kind1 hkm (by rw [hkk]; simpa using hk)
      · rintro (h | ⟨x, hx, hk, _⟩)
        · cases h
        · exact ⟨x, hx, by simp [hk]⟩
    show lastErr (e.kind == 1 || _) = if (e.kind != 1 && !isIn s 1 []) = true then 16 else 0
    rw [hany]
    unfold lastErr
    by_cases hk : e.kind = 1
    · simp [hk]
    · cases isIn s 1 [] <;> simp [hk]
theorem getE_id {l : List Evt} {id : Int} {x : Evt} (h : getE l id = some x) : x.id = id := by
  unfold getE at h
  have := List.find?_some h
  simpa using this
theorem gap_ids {l : List Evt} : ∀ {ids : List Int}, gapOf l ids = false → (ofIds l ids).map (·.id) = ids
  | [], _ => rfl
  | id :: ids, h => by
    unfold gapOf at h
    rw [List.any_cons, Bool.or_eq_false_iff] at h
    unfold ofIds
    cases hg : getE l id with
    | none => rw [hg] at h; cases h.1
    | some x =>
      simp only [List.filterMap_cons, hg, List.map_cons]
      rw [getE_id hg]
      have := gap_ids (l := l) (ids := ids) h.2
      unfold ofIds at this
      rw [this]
theorem fits_zero {l : List Evt} {e : Evt} (h : fitsOf l e = 0) : gapOf l e.auth = false ∧ ∃ s, (ofIds l e.auth).foldlM (rStep (keysOf e)) [] = some s := by
  rw [fits_eq] at h
  unfold rfitsOf at h
  split at h
  · cases h
  rename_i hg
  split at h
  · cases h
  refine ⟨by simpa using hg, ?_⟩
  cases hs : (ofIds l e.auth).foldlM (rStep (keysOf e)) [] with
  | none => rw [hs] at h; cases h
  | some s => exact ⟨s, rfl⟩
theorem len_le_of_sub {α : Type} : ∀ (a b : List α), a.Pairwise (· ≠ ·) → (∀ x ∈ a, x ∈ b) → a.length ≤ b.length
  | [], _, _, _ => Nat.zero_le _
  | x :: a, b, ha, h => by
    classical
    rw [List.pairwise_cons] at ha
    have hx := h x (List.mem_cons_self ..)
    have h1 := len_le_of_sub a (b.erase x) ha.2 fun y hy => (List.mem_erase_of_ne (fun hh => ha.1 y hy hh.symm)).2 (h y (List.mem_cons_of_mem _ hy))
    rw [List.length_erase_of_mem hx] at h1
    have : 0 < b.length := List.length_pos_of_mem hx
    rw [List.length_cons]; omega
theorem fromK_fits {A : List Evt} {k : EntD} {x : Evt} (h : fromK A k = some x) : x ∈ A ∧ x.kind = k.kind ∧ x.key = k.key := by
  unfold fromK at h
  have h1 := List.find?_some h
  exact ⟨List.mem_of_find?_eq_some h, fitsKey_iff.1 h1⟩
theorem fromK_iff {A : List Evt} (hA : A.Pairwise Fits2) {k : EntD} {x : Evt} : fromK A k = some x ↔ x ∈ A ∧ x.kind = k.kind ∧ x.key = k.key := by
  constructor
  · exact fromK_fits
  · rintro ⟨h1, h2⟩
    cases hf : fromK A k with
    | none =>
      unfold fromK at hf
      exact (List.find?_eq_none.1 hf x h1 (fitsKey_iff.2 h2)).elim
    | some y =>
      obtain ⟨hym, hy⟩ := fromK_fits hf
      by_cases hxy : y = x
      · rw [hxy]
      · exfalso
        have hsym : ∀ {l : List Evt}, l.Pairwise Fits2 → ∀ {a b}, a ∈ l → b ∈ l → a ≠ b → Fits2 a b := by
          intro l hl
          induction hl with
          | nil => intro a b ha; cases ha
          | cons hx _ ih =>
            intro a b ha hb hab
            rcases List.mem_cons.1 ha with rfl | ha <;> rcases List.mem_cons.1 hb with rfl | hb
            · exact (hab rfl).elim
            · exact hx b hb
            · exact fun hh => hx a (by assumption) ⟨hh.1.symm, hh.2.symm⟩
            · exact ih ha hb hab
        exact hsym hA hym h1 hxy ⟨hy.1.trans h2.1.symm, hy.2.trans h2.2.symm⟩
theorem from_mem {A : List Evt} (hA : A.Pairwise Fits2) {K : List EntD} (hin : ∀ x ∈ A, isIn K x.kind x.key = true) {x : Evt} : x ∈ froms A K ↔ x ∈ A := by
  unfold froms
  rw [List.mem_filterMap]
  constructor
  · rintro ⟨k, _, hk⟩
    exact ((fromK_iff hA).1 hk).1
  · intro hx
    obtain ⟨k, hk, h1, h2⟩ := isIn_iff.1 (hin x hx)
    exact ⟨k, hk, (fromK_iff hA).2 ⟨hx, h1.symm, h2.symm⟩⟩
theorem from_dist (A : List Evt) : ∀ {K : List EntD}, K.Pairwise Key2 → (froms A K).Pairwise Fits2
  | [], _ => List.Pairwise.nil
  | k :: K, h => by
    rw [List.pairwise_cons] at h
    have ih := from_dist A h.2
    unfold froms
    rw [List.filterMap_cons]
    cases hf : fromK A k with
    | none => exact ih
    | some x =>
      refine List.pairwise_cons.2 ⟨fun y hy hxy => ?_, ih⟩
      obtain ⟨k', hk', hfy⟩ := List.mem_filterMap.1 hy
      have hx := (fromK_fits hf).2
      have hy' := (fromK_fits hfy).2
      exact h.1 k' hk' ⟨hx.1.symm.trans (hxy.1.trans hy'.1), hx.2.symm.trans (hxy.2.trans hy'.2)⟩
theorem fits2_ne {l : List Evt} (h : l.Pairwise Fits2) : l.Pairwise (· ≠ ·) := h.imp fun hab hh => hab (by rw [hh]; exact ⟨rfl, rfl⟩)
theorem sorted_ext {a b : List Int} (h : ∀ x, x ∈ a ↔ x ∈ b) : sortedL a = sortedL b :=
  strict_ext (sortedL_sorted a).1 (sortedL_sorted b).1 fun x => by rw [(sortedL_sorted a).2, (sortedL_sorted b).2, h]
/-- Of a right Auth all events are used, each for another key. -/
theorem whole {l : List Evt} {e : Evt} (h : fitsOf l e = 0) : (fromOf l e).Pairwise Fits2 ∧ (fromOf l e).length = e.auth.length ∧ sortedL ((fromOf l e).map (·.id)) = sortedL e.auth := by
  obtain ⟨hg, s, hs⟩ := fits_zero h
  obtain ⟨_, h2, h3⟩ := fold_some _ _ _ hs
  have hm : ∀ x, x ∈ fromOf l e ↔ x ∈ ofIds l e.auth := fun x => from_mem h3 fun x hx => (h2 x hx).1
  have hd := from_dist (ofIds l e.auth) (keysOf_dist e)
  refine ⟨hd, ?_, sorted_ext fun x => ?_⟩
  · have h4 := len_le_of_sub _ _ (fits2_ne hd) fun x hx => (hm x).1 hx
    have h5 := len_le_of_sub _ _ (fits2_ne h3) fun x hx => (hm x).2 hx
    have h6 := gap_named hg
    rw [← h6]
    exact Nat.le_antisymm h4 h5
  · have hgi := gap_ids hg
    have hx2 : x ∈ e.auth ↔ x ∈ (ofIds l e.auth).map (·.id) := by rw [hgi]
    rw [hx2, List.mem_map, List.mem_map]
    exact ⟨fun ⟨a, ha, hx⟩ => ⟨a, (hm a).1 ha, hx⟩, fun ⟨a, ha, hx⟩ => ⟨a, (hm a).2 ha, hx⟩⟩
/-- A state whose entries are events of the room. -/
def honOf (l : List Evt) (s : List EntD) (room : Bytes) : Prop := ∀ t ∈ s, ∃ x, getE l t.id = some x ∧ x.kind = t.kind ∧ x.key = t.key ∧ x.room = room
theorem sortedL_len (a : List Int) : (sortedL a).length ≤ a.length := by
  have := foldl_putL_len a []
  simp only [List.length_nil] at this
  unfold sortedL; omega
/-- An Auth that was selected from a state of the room is right. -/
theorem made {l : List Evt} {s : List EntD} {e : Evt} (hs : honOf l s e.room) (hc : ∃ t ∈ s, t.kind = 1 ∧ t.key = []) : fitsOf l { e with auth := selOf e s } = 0 := by
  have hK : keysOf { e with auth := selOf e s } = keysOf e := rfl
  have hsel : ∀ id ∈ selOf e s, ∃ k ∈ keysOf e, ∃ x, getE l id = some x ∧ x.kind = k.kind ∧ x.key = k.key ∧ x.room = e.room := by
    intro id hid
    unfold selOf at hid
    rw [(sortedL_sorted _).2] at hid
    obtain ⟨k, hk, hkg⟩ := List.mem_filterMap.1 hid
    unfold rgetOf at hkg
    obtain ⟨t, ht, rfl⟩ := Option.map_eq_some_iff.1 hkg
    obtain ⟨x, hx, h1, h2, h3⟩ := hs t (List.mem_of_find?_eq_some ht)
    have h4 := isKey_iff.1 (List.find?_some ht)
    exact ⟨k, hk, x, hx, h1.trans h4.1, h2.trans h4.2, h3⟩
  have hgap : gapOf l (selOf e s) = false := by
    unfold gapOf
    rw [List.any_eq_false]
    intro id hid
    obtain ⟨k, _, x, hx, _⟩ := hsel id hid
    rw [hx]; exact Bool.false_ne_true
  have hof : ∀ x ∈ ofIds l (selOf e s), x.id ∈ selOf e s ∧ getE l x.id = some x := by
    intro x hx
    unfold ofIds at hx
    obtain ⟨id, hid, hg⟩ := List.mem_filterMap.1 hx
    rw [getE_id hg]
    exact ⟨hid, hg⟩
  have hroom : roomOf (ofIds l (selOf e s)) e.room = false := by
    unfold roomOf
    rw [List.any_eq_false]
    intro x hx
    obtain ⟨k, _, y, hy, _, _, h3⟩ := hsel _ (hof x hx).1
    rw [(hof x hx).2] at hy
    cases hy
    simp [h3]
  have hin : ∀ x ∈ ofIds l (selOf e s), isIn (keysOf e) x.kind x.key = true := by
    intro x hx
    obtain ⟨k, hk, y, hy, h1, h2, _⟩ := hsel _ (hof x hx).1
    rw [(hof x hx).2] at hy
    cases hy
    exact isIn_iff.2 ⟨k, hk, h1.symm, h2.symm⟩
  -- one key, one id
  have hone : ∀ x ∈ ofIds l (selOf e s), rgetOf s x.kind x.key = some x.id := by
    intro x hx
    have hid := (hof x hx).1
    unfold selOf at hid
    rw [(sortedL_sorted _).2] at hid
    obtain ⟨k, hk, hkg⟩ := List.mem_filterMap.1 hid
    have hkg' := hkg
    unfold rgetOf at hkg'
    obtain ⟨t, ht, hti⟩ := Option.map_eq_some_iff.1 hkg'
    obtain ⟨y, hy, h1, h2, _⟩ := hs t (List.mem_of_find?_eq_some ht)
    have h4 := isKey_iff.1 (List.find?_some ht)
    rw [hti, (hof x hx).2] at hy
    cases hy
    rw [h1, h2, h4.1, h4.2]
    exact hkg
  have hdist : (ofIds l (selOf e s)).Pairwise Fits2 := by
    have hlt : ((ofIds l (selOf e s)).map (·.id)).Pairwise (· < ·) := by rw [gap_ids hgap]; exact (sortedL_sorted _).1
    rw [List.pairwise_map] at hlt
    have hboth : (ofIds l (selOf e s)).Pairwise fun a b => a.id < b.id ∧ (a ∈ ofIds l (selOf e s) ∧ b ∈ ofIds l (selOf e s)) := by
      rw [List.pairwise_iff_getElem] at hlt ⊢
      exact fun i j hi hj hij => ⟨hlt i j hi hj hij, List.getElem_mem hi, List.getElem_mem hj⟩
    refine hboth.imp fun {a b} h hk => ?_
    have ha := hone a h.2.1
    have hb := hone b h.2.2
    rw [hk.1, hk.2, hb] at ha
    have h1 := Option.some.inj ha
    have := h.1
    omega
  obtain ⟨sn, hsn⟩ := fold_ok (K := keysOf e) (ofIds l (selOf e s)) [] (fun x hx => ⟨hin x hx, rfl⟩) hdist
  rw [fits_eq]
  unfold rfitsOf
  rw [hK]
  show (if gapOf l (selOf e s) = true then (14 : Int) else if roomOf (ofIds l (selOf e s)) e.room = true then 13 else rEnd e.kind ((ofIds l (selOf e s)).foldlM (rStep (keysOf e)) [])) = 0
  rw [hgap, hroom, hsn]
  simp only [Bool.false_eq_true, if_false]
  show (if (e.kind != 1 && !isIn sn 1 []) = true then (16 : Int) else 0) = 0
  by_cases hk : e.kind = 1
  · simp [hk]
  · have hkin := (keys_create hk).1
    obtain ⟨k, hkm, hk1, hk2⟩ := isIn_iff.1 hkin
    obtain ⟨t, ht, ht1, ht2⟩ := hc
    have hsome : ∃ id, rgetOf s k.kind k.key = some id := by
      unfold rgetOf
      cases hf : s.find? (isKey k.kind k.key) with
      | none =>
        have := List.find?_eq_none.1 hf t ht
        exact (this (isKey_iff.2 ⟨by rw [ht1, hk1], by rw [ht2, hk2]⟩)).elim
      | some y => exact ⟨_, rfl⟩
    obtain ⟨id, hid⟩ := hsome
    have hidm : id ∈ selOf e s := by
      unfold selOf
      rw [(sortedL_sorted _).2]
      exact List.mem_filterMap.2 ⟨k, hkm, hid⟩
    have hid' := hid
    unfold rgetOf at hid'
    obtain ⟨t2, ht2', hti⟩ := Option.map_eq_some_iff.1 hid'
    obtain ⟨y, hy, h1, h2, _⟩ := hs t2 (List.mem_of_find?_eq_some ht2')
    have h4 := isKey_iff.1 (List.find?_some ht2')
    have hym : y ∈ ofIds l (selOf e s) := by
      unfold ofIds
      exact List.mem_filterMap.2 ⟨id, hidm, by rw [← hti]; exact hy⟩
    have hin1 := ((fold_some _ _ _ hsn).1 1 []).2 (.inr ⟨y, hym, by rw [h1, h4.1, hk1], by rw [h2, h4.2, hk2]⟩)
    simp [hin1]
end Go.Proofs.Ytebggldlhohkpaa
