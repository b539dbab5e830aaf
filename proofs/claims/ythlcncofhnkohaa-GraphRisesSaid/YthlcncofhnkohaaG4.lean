/- Contracts of chapter 09: Order (both), Ids. No condition. -/
import Derived.Test.YthlcncofhnkohaaG3
namespace Go.Proofs.Ythlcncofhnkohaa
open Go Go.Abs
set_option linter.unusedSimpArgs false
def leE (a b : Evt) : Bool := decide (a.depth < b.depth) || (a.depth == b.depth && decide (a.id ≤ b.id))
/-- An event among those that stand in order. -/
def insE (A : List Evt) (x : Evt) : List Evt := A.takeWhile (leE · x) ++ x :: A.dropWhile (leE · x)
def isortE (l : List Evt) : List Evt := l.foldl insE []
def orderOf (l : List Evt) : List Int := (isortE l).map (·.id)
theorem isortE_succ {l : List Evt} {k : Nat} (h : k < l.length) : isortE (l.take (k + 1)) = insE (isortE (l.take k)) l[k] := by
  unfold isortE; rw [List.take_succ_eq_append_getElem h, List.foldl_append]; rfl
theorem leE_refl (a : Evt) : leE a a = true := by simp [leE]
theorem leE_trans {a b c : Evt} (h1 : leE a b = true) (h2 : leE b c = true) : leE a c = true := by
  simp only [leE, Bool.or_eq_true, decide_eq_true_eq, Bool.and_eq_true, beq_iff_eq] at *
  omega
theorem leE_total {a b : Evt} (h : leE a b = false) : leE b a = true := by
  simp only [leE, Bool.or_eq_true, decide_eq_true_eq, Bool.and_eq_true, beq_iff_eq, Bool.or_eq_false_iff, decide_eq_false_iff_not, Bool.and_eq_false_iff, beq_eq_false_iff_ne] at *
  omega
theorem insE_perm (A : List Evt) (x : Evt) : (insE A x).Perm (A ++ [x]) := by
  unfold insE
  have h : (A.takeWhile (leE · x) ++ A.dropWhile (leE · x)) = A := List.takeWhile_append_dropWhile
  refine List.Perm.trans List.perm_middle ?_
  rw [h]
  exact (List.perm_append_singleton x A).symm
theorem insE_len (A : List Evt) (x : Evt) : (insE A x).length = A.length + 1 := by rw [(insE_perm A x).length_eq]; simp
theorem isortE_perm (l : List Evt) : (isortE l).Perm l := by
  have : ∀ (l A : List Evt), (l.foldl insE A).Perm (A ++ l) := by
    intro l
    induction l with
    | nil => intro A; simp
    | cons x l ih =>
      intro A
      refine (ih (insE A x)).trans ?_
      have := (insE_perm A x).append_right l
      simpa using this
  have h := this l []
  rw [List.nil_append] at h
  exact h
theorem isortE_len (l : List Evt) : (isortE l).length = l.length := (isortE_perm l).length_eq
theorem insE_sorted {A : List Evt} {x : Evt} (h : A.Pairwise fun a b => leE a b = true) : (insE A x).Pairwise fun a b => leE a b = true := by
  induction A with
  | nil => simp [insE]
  | cons a A ih =>
    rw [List.pairwise_cons] at h
    unfold insE
    by_cases g : leE a x = true
    · have e : insE (a :: A) x = a :: insE A x := by simp [insE, List.takeWhile_cons, List.dropWhile_cons, g]
      have := ih h.2
      show (insE (a :: A) x).Pairwise _
      rw [e, List.pairwise_cons]
      refine ⟨fun b hb => ?_, this⟩
      rcases List.mem_append.1 ((insE_perm A x).mem_iff.1 hb) with hb | hb
      · exact h.1 b hb
      · simp only [List.mem_singleton] at hb; subst hb; exact g
    · have g' : leE a x = false := by simpa using g
      have e : insE (a :: A) x = x :: a :: A := by simp [insE, List.takeWhile_cons, List.dropWhile_cons, g']
      show (insE (a :: A) x).Pairwise _
      have hxa := leE_total g'
      rw [e, List.pairwise_cons, List.pairwise_cons]
      refine ⟨fun b hb => ?_, h.1, h.2⟩
      rcases List.mem_cons.1 hb with rfl | hb
      · exact hxa
      · exact leE_trans hxa (h.1 b hb)
theorem isortE_sorted (l : List Evt) : (isortE l).Pairwise fun a b => leE a b = true := by
  have : ∀ (l A : List Evt), A.Pairwise (fun a b => leE a b = true) → (l.foldl insE A).Pairwise fun a b => leE a b = true := by
    intro l
    induction l with
    | nil => intro A h; exact h
    | cons x l ih => intro A h; exact ih _ (insE_sorted h)
  exact this l [] List.Pairwise.nil
/-- The list while the new one moves to its place. -/
def mid (A : List Evt) (x : Evt) (k : Nat) : List Evt := A.take k ++ x :: A.drop k
theorem mid_len {A : List Evt} {x : Evt} {k : Nat} (hk : k ≤ A.length) : (mid A x k).length = A.length + 1 := by
  simp only [mid, List.length_append, List.length_take, List.length_cons, List.length_drop]; omega
theorem mid_full (A : List Evt) (x : Evt) : mid A x A.length = A ++ [x] := by simp [mid]
theorem mid_at {A : List Evt} {x : Evt} {k : Nat} (hk : k ≤ A.length) : (mid A x k)[k]? = some x := by
  unfold mid
  rw [List.getElem?_append_right (by simp; omega)]
  simp [Nat.min_eq_left hk]
theorem mid_below {A : List Evt} {x : Evt} {k : Nat} (hk : k < A.length) : (mid A x (k + 1))[k]? = some A[k] := by
  unfold mid
  rw [List.getElem?_append_left (by simp; omega), List.getElem?_take_of_lt (by omega), List.getElem?_eq_getElem hk]
theorem mid_swap {A : List Evt} {x : Evt} {k : Nat} (hk : k < A.length) : ((mid A x (k + 1)).set k x).set (k + 1) A[k] = mid A x k := by
  apply List.ext_getElem?
  intro j
  rw [List.getElem?_set, List.getElem?_set]
  have hl : (mid A x (k + 1)).length = A.length + 1 := mid_len (by omega)
  simp only [List.length_set, hl]
  by_cases h1 : k + 1 = j
  · subst h1
    have hx : (mid A x k)[k + 1]? = some A[k] := by
      unfold mid
      rw [List.getElem?_append_right (by simp; omega)]
      simp only [List.length_take, Nat.min_eq_left (Nat.le_of_lt hk), Nat.add_sub_cancel_left]
      rw [List.getElem?_cons_succ, List.drop_eq_getElem_cons hk]
      rfl
    rw [if_pos rfl, if_pos (by omega), hx]
  · rw [if_neg h1]
    by_cases h2 : k = j
    · subst h2
      rw [if_pos rfl, if_pos (by omega), mid_at (by omega)]
    · rw [if_neg h2]
      unfold mid
      by_cases h3 : j < k
      · rw [List.getElem?_append_left (by simp; omega), List.getElem?_append_left (by simp; omega), List.getElem?_take_of_lt (by omega), List.getElem?_take_of_lt (by omega)]
      · rw [List.getElem?_append_right (by simp; omega), List.getElem?_append_right (by simp; omega)]
        simp only [List.length_take, Nat.min_eq_left (show k + 1 ≤ A.length by omega), Nat.min_eq_left (Nat.le_of_lt hk)]
        obtain ⟨i, rfl⟩ : ∃ i, j = k + 2 + i := ⟨j - (k + 2), by omega⟩
        rw [show k + 2 + i - (k + 1) = i + 1 by omega, show k + 2 + i - k = (i + 1) + 1 by omega, List.getElem?_cons_succ, List.getElem?_cons_succ, List.getElem?_drop, List.getElem?_drop]
        congr 1; omega
theorem mid_done {A : List Evt} {x : Evt} {k : Nat} (hs : A.Pairwise fun a b => leE a b = true) (hk : k ≤ A.length) (hup : ∀ a ∈ A.drop k, leE a x = false) (hlo : ∀ (j : Nat) (h : j < A.length), j + 1 = k → leE A[j] x = true) : mid A x k = insE A x := by
  have hall : ∀ a ∈ A.take k, leE a x = true := by
    intro a ha
    obtain ⟨j, hj, rfl⟩ := List.mem_take_iff_getElem.1 ha
    rcases Nat.lt_or_ge (j + 1) k with h | h
    · have h2 := hlo (k - 1) (by omega) (by omega)
      have h1 := List.pairwise_iff_getElem.1 hs j (k - 1) (by omega) (by omega) (by omega)
      exact leE_trans h1 h2
    · exact hlo j (by omega) (by omega)
  unfold mid insE
  have ht : A.takeWhile (leE · x) = A.take k := by
    conv => lhs; rw [← List.take_append_drop k A]
    rw [List.takeWhile_append_of_pos (fun a ha => hall a ha)]
    cases hd : A.drop k with
    | nil => simp
    | cons b B =>
      have := hup b (by rw [hd]; exact List.mem_cons_self ..)
      simp [List.takeWhile_cons, this]
  have hdw : A.dropWhile (leE · x) = A.drop k := by
    conv => lhs; rw [← List.take_append_drop k A]
    rw [List.dropWhile_append_of_pos (fun a ha => hall a ha)]
    cases hd : A.drop k with
    | nil => simp
    | cons b B =>
      have := hup b (by rw [hd]; exact List.mem_cons_self ..)
      simp [List.dropWhile_cons, this]
  rw [ht, hdw]
/-- What stands behind is greater. -/
def UpB (A : List Evt) (x : Evt) (k : Nat) : Prop := ∀ a ∈ A.drop k, leE a x = false
theorem UpB.full (A : List Evt) (x : Evt) : UpB A x A.length := fun a ha => by simp at ha
theorem UpB.step {A : List Evt} {x : Evt} {k : Nat} (hk : k < A.length) (h : UpB A x (k + 1)) (hb : leE A[k] x = false) : UpB A x k := fun a ha => by
  rw [List.drop_eq_getElem_cons hk] at ha
  rcases List.mem_cons.1 ha with rfl | ha
  · exact hb
  · exact h a ha
/-- The ids so far, and zeros. -/
def fillz (S : List Evt) (k : Nat) : List AV := ((S.take k).map fun e => I e.id) ++ List.replicate (S.length - k) (I 0)
theorem fillz_zero (S : List Evt) : List.replicate S.length (AV.v (.int .i64 0)) = fillz S 0 := by simp [fillz, I]
theorem fillz_len {S : List Evt} {k : Nat} (hk : k ≤ S.length) : (fillz S k).length = S.length := by simp [fillz]; omega
theorem fillz_full (S : List Evt) : fillz S S.length = S.map fun e => I e.id := by simp [fillz]
theorem fillz_set {S : List Evt} {k : Nat} (hk : k < S.length) : (fillz S k).set k (.v (.int .i64 S[k].id)) = fillz S (k + 1) := by
  unfold fillz
  have hl : ((S.take k).map fun e => I e.id).length = k := by simp; omega
  rw [List.set_append_right _ _ (by omega), hl, Nat.sub_self]
  obtain ⟨n, hn⟩ : ∃ n, S.length - k = n + 1 := ⟨S.length - k - 1, by omega⟩
  rw [hn, List.replicate_succ, List.set_cons_zero, List.take_succ_eq_append_getElem hk, List.map_append, List.append_assoc, show S.length - (k + 1) = n by omega]
  rfl
def plc (e : Evt) : AV := .agg [I e.depth, I e.id]
set_option maxRecDepth 8000 in
set_option maxHeartbeats 4000000 in
theorem rids_ac (l : List Evt) (hsz : l.length ≤ 100000) : AC Try.prog 31 [evs l] (ints (l.map (·.id))) := by
  refine AC.of_body Try.func31 rfl rfl Try.ntmps31 (congrArg Array.toList Try.results31) (by simp) (pures1 (pure_evs _)) (pureR_ints _) fun w S' => AWp.of_vc [] ?_
  have hm : l.length ≤ maxLen := by unfold maxLen; omega
  simp [go_sem]
  refine AWp.ownNil 3 3 1 (by simp [go_sem]) ?_
  refine AWp.loop_vc [] (fun m s => ∃ q v : Nat, q ≤ l.length ∧ m = l.length - q ∧ s.σ 0 = evs l ∧ s.σ 4 = I q ∧ s.σ 3 = .ref 3 v ∧ s.ver 3 = v ∧ s.h 3 = .arr 3 1 ((l.take q).map fun e => I e.id)) l.length ⟨0, 1, by simp [go_sem]⟩ ?_
  rintro m s ⟨q, v, hq, rfl, h0, h4, h3, hv3, hh3⟩
  by_cases hlt : q < l.length
  · simp [go_sem, h0, h4, h3, hv3, hh3, hlt, wrap_succ hlt hm]
    refine ⟨⟨by omega, by omega⟩, l.length - (q + 1), by omega, q + 1, by omega, rfl, rfl, ?_⟩
    rw [← List.map_take, ← List.map_take, List.take_succ_eq_append_getElem hlt]
    simp only [List.map_append, List.map_cons, List.map_nil]
  · rw [List.take_of_length_le (by omega)] at hh3
    simp [go_sem, h0, h4, h3, hv3, hh3, hlt]
    refine PostR.retW [3] ?_ (.refl _)
    simp [go_sem, h3, hv3, hh3]
set_option maxRecDepth 8000 in
set_option maxHeartbeats 4000000 in
theorem order_ac (l : List Evt) (hsz : l.length ≤ 1000) : AC Try.prog 17 [evs l] (ints (orderOf l)) := by
  refine AC.of_body Try.func17 rfl rfl Try.ntmps17 (congrArg Array.toList Try.results17) (by simp) (pures1 (pure_evs _)) (pureR_ints _) fun w S' => AWp.of_vc [] ?_
  have hm : l.length ≤ maxLen := by unfold maxLen; omega
  have hinj : ∀ d d' : Nat, d ≠ d' → d ≠ d' := fun _ _ h => h
  simp [go_sem]
  refine ⟨⟨by omega, by omega⟩, ?_⟩
  refine AWp.loop_vc [] (fun m s => ∃ k v : Nat, k ≤ l.length ∧ m = l.length - k ∧ s.σ 0 = evs l ∧ s.σ 15 = I l.length ∧ s.σ 16 = I k ∧ s.σ 3 = .ref 13 v ∧ s.ver 13 = v ∧ s.h 13 = .arr 63 2 ((isortE (l.take k)).map plc)) l.length ⟨0, 1, by simp [go_sem, isortE]⟩ ?_
  rintro m s ⟨k, v, hk, rfl, h0, h15, h16, h3, hv, hh⟩
  by_cases hlt : k < l.length
  · have hsu := isortE_succ hlt
    have hAl : (isortE (l.take k)).length = k := by rw [isortE_len, List.length_take]; omega
    have hAs := isortE_sorted (l.take k)
    generalize isortE (l.take k) = A at hh hsu hAl hAs
    generalize hx : l[k] = x at hsu
    have hx' : l[k]? = some x := by rw [List.getElem?_eq_getElem hlt, hx]
    simp [go_sem, h0, h15, h16, h3, hv, hh, hlt, hx']
    refine AWp.draw (n := 13) [] rfl (by kernel_rfl) ?_
    simp [go_sem, h0, h15, h16, h3, hv, hh, hlt, hx']
    refine ⟨⟨by omega, by omega⟩, ?_⟩
    have hAm : A.length ≤ maxLen := by omega
    refine AWp.loop_vc [] (fun m s => ∃ q v : Nat, q ≤ A.length ∧ m = q ∧ s.σ 0 = evs l ∧ s.σ 15 = I l.length ∧ s.σ 16 = I k ∧ s.σ 3 = .ref 13 v ∧ s.ver 13 = v ∧ s.h 13 = .arr 63 2 ((mid A x q).map plc) ∧ s.σ 5 = I q ∧ UpB A x q) A.length ⟨A.length, v + 1, by simp [go_sem, h0, h15, h16, h3, hv, hh, wrap_natN hAm, mid_full, UpB.full, plc, hx]⟩ ?_
    clear h0 h15 h16 h3 hv hh v
    rintro m s ⟨q, v, hq, hmq, h0, h15, h16, h3, hv, hh, h5, hup⟩
    cases q with
    | zero =>
      have hdone : mid A x 0 = isortE (l.take (k + 1)) := by rw [hsu]; exact mid_done hAs (by omega) hup (fun j h hj => by omega)
      rw [hdone] at hh
      simp [go_sem, h0, h15, h16, h3, hv, hh, h5, wrap_succ hlt hm]
      exact ⟨l.length - (k + 1), by omega, k + 1, by omega, rfl, rfl, rfl⟩
    | succ p =>
      have hp : p < A.length := by omega
      have hb := mid_below (x := x) hp
      have hat := mid_at (x := x) hq
      have hml := mid_len (x := x) hq
      have hswap := mid_swap (x := x) hp
      have hdone : leE A[p] x = true → mid A x (p + 1) = isortE (l.take (k + 1)) := fun hle => by rw [hsu]; exact mid_done hAs hq hup (fun j h hj => by have hjp : j = p := (by omega); subst hjp; exact hle)
      have hstep : leE A[p] x = false → UpB A x p := fun hle => hup.step hp hle
      generalize hy : A[p] = y at hb hswap hdone hstep
      generalize mid A x (p + 1) = L at hh hb hat hml hswap hdone
      have hpL : p < L.length := by omega
      have hqL : p + 1 < L.length := by omega
      have hb' : L[p] = y := by rw [List.getElem?_eq_getElem hpL] at hb; exact Option.some.inj hb
      have hat' : L[p + 1] = x := by rw [List.getElem?_eq_getElem hqL] at hat; exact Option.some.inj hat
      have hqLi : (p : Int) + 1 < (L.length : Int) := by omega
      have hw : IntKind.i64.wrap (p : Int) = p := wrap_natN (by omega)
      have h5' : s.σ 5 = I ((p : Int) + 1) := h5
      have hpos : (0 : Int) < (p : Int) + 1 := by omega
      have hpos2 : (0 : Int) ≤ (p : Int) + 1 := by omega
      have htn : ((p : Int) + 1).toNat = p + 1 := by omega
      by_cases c1 : y.depth < x.depth
      · have hle : leE y x = true := by simp [leE, c1]
        simp [go_sem, h0, h15, h16, h3, hv, hh, h5', hpos]
        refine AWp.drawText [] [6, 7] [] [] rfl (by kernel_rfl) hinj ?_
        simp (maxSteps := 1000000) [go_sem, h0, h15, h16, h3, hv, hh, h5', hpos, hpos2, htn, hw, hpL, hqL, hqLi, hb', hat', plc, wrap_succ hlt hm, c1]
        exact ⟨l.length - (k + 1), by omega, k + 1, by omega, rfl, rfl, by rw [hdone hle]⟩
      · by_cases c2 : y.depth = x.depth
        · by_cases c3 : y.id ≤ x.id
          · have hle : leE y x = true := by simp [leE, c2, c3]
            simp [go_sem, h0, h15, h16, h3, hv, hh, h5', hpos]
            refine AWp.drawText [] [6, 7] [] [] rfl (by kernel_rfl) hinj ?_
            simp (maxSteps := 1000000) [go_sem, h0, h15, h16, h3, hv, hh, h5', hpos, hpos2, htn, hw, hpL, hqL, hqLi, hb', hat', plc, wrap_succ hlt hm, c1, c2, c3]
            exact ⟨l.length - (k + 1), by omega, k + 1, by omega, rfl, rfl, by rw [hdone hle]⟩
          · have hle : leE y x = false := by simp [leE, c2, c3]
            have hup' := hstep hle
            simp [go_sem, h0, h15, h16, h3, hv, hh, h5', hpos]
            refine AWp.drawText [] [6, 7] [] [] rfl (by kernel_rfl) hinj ?_
            simp (maxSteps := 1000000) [go_sem, h0, h15, h16, h3, hv, hh, h5', hpos, hpos2, htn, hw, hpL, hqL, hqLi, hb', hat', plc, c1, c2, c3]
            refine AWp.drawText [] [] [13] [] rfl (by kernel_rfl) hinj ?_
            simp (maxSteps := 1000000) [go_sem, h0, h15, h16, h3, hv, hh, h5', hpos, hpos2, htn, hw, hpL, hqL, hqLi, hb', hat', plc, c1, c2, c3]
            exact ⟨p, by omega, p, by omega, rfl, by rw [← hswap]; simp [plc, List.map_set, I, c2], rfl, hup'⟩
        · have hle : leE y x = false := by simp [leE, c1, c2]
          have hup' := hstep hle
          simp [go_sem, h0, h15, h16, h3, hv, hh, h5', hpos]
          refine AWp.drawText [] [6, 7] [] [] rfl (by kernel_rfl) hinj ?_
          simp (maxSteps := 1000000) [go_sem, h0, h15, h16, h3, hv, hh, h5', hpos, hpos2, htn, hw, hpL, hqL, hqLi, hb', hat', plc, c1, c2]
          refine AWp.drawText [] [] [13] [] rfl (by kernel_rfl) hinj ?_
          simp (maxSteps := 1000000) [go_sem, h0, h15, h16, h3, hv, hh, h5', hpos, hpos2, htn, hw, hpL, hqL, hqLi, hb', hat', plc, c1, c2]
          exact ⟨p, by omega, p, by omega, rfl, by rw [← hswap]; simp [plc, List.map_set, I], rfl, hup'⟩
  · rw [List.take_of_length_le (by omega)] at hh
    have hSl := isortE_len l
    have hres : orderOf l = (isortE l).map (·.id) := rfl
    generalize isortE l = S at hh hSl hres
    have hSm : S.length ≤ maxLen := by omega
    simp [go_sem, h0, h15, h16, h3, hv, hh, hlt]
    refine ⟨⟨by omega, by omega⟩, ?_⟩
    refine AWp.loop_vc [] (fun m s => ∃ k w : Nat, k ≤ S.length ∧ m = S.length - k ∧ s.σ 81 = .ref 13 v ∧ s.σ 82 = I S.length ∧ s.σ 83 = I k ∧ s.ver 13 = v ∧ s.h 13 = .arr 63 2 (S.map plc) ∧ s.σ 8 = .ref 80 w ∧ s.ver 80 = w ∧ s.h 80 = .arr 3 1 (fillz S k)) S.length ⟨0, s.ver 80 + 1, by simp [go_sem, h0, h15, h16, h3, hv, hh, fillz_zero]⟩ ?_
    clear h0 h15 h16 h3 hv hh hlt hk k
    rintro m s ⟨k, u, hk, rfl, h81, h82, h83, hv, hh, h8, hu, hhu⟩
    by_cases hlt : k < S.length
    · have hfl := fillz_len (S := S) hk
      have hfs := fillz_set hlt
      generalize fillz S k = F at hhu hfl hfs
      have hkF : k < F.length := by omega
      simp [go_sem, h81, h82, h83, hv, hh, h8, hu, hhu, hlt, hkF, plc, wrap_succ hlt hSm]
      exact ⟨S.length - (k + 1), by omega, k + 1, by omega, rfl, rfl, hfs⟩
    · obtain rfl : k = S.length := (by omega)
      rw [fillz_full] at hhu
      simp [go_sem, h81, h82, h83, hv, hh, h8, hu, hhu]
      refine PostR.retW [80] ?_ (.refl _)
      simp [go_sem, h8, hu, hhu, hres]
end Go.Proofs.Ythlcncofhnkohaa
