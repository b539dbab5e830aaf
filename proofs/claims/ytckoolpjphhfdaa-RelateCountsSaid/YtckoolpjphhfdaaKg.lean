/- Several texts of the proof in one: R4, R5, R6, R7, R8. No condition. -/
import Derived.Test.YtckoolpjphhfdaaKf
import Derived.Test.YtckoolpjphhfdaaKd
import Derived.Test.YtckoolpjphhfdaaLa
import Derived.Test.YtckoolpjphhfdaaKe
set_option linter.unusedSimpArgs false
set_option linter.unusedVariables false
-- part R4
namespace Go.Proofs.Ytckoolpjphhfdaa
open Go Go.Abs Go.Shelf Go.RowKit Go.Lib Go.Sort Go.Proofs
set_option linter.unusedSimpArgs false
set_option linter.unusedVariables false
abbrev tx (b : Bytes) : ByteArray := ⟨b.toArray⟩
/-- A text with its number. -/
def ctc36 (c : Bytes → Int) (b : Bytes) : List Value := [.string (tx b), .int .i64 (c b)]
def cmpB (a b : Bytes) : Int := compareBytes a b
set_option maxHeartbeats 4000000 in
theorem closure36_calls (c : Bytes → Int) (x y : Bytes) (W : World) : Calls Try.prog 43 #[.agg (ctc36 c x).toArray, .agg (ctc36 c y).toArray] W fun e w' => e = .returned (.int .i64 (cmpB x y)) ∧ ∃ q os', w' = grow (W.drewN q) os' := by
  have hcon := fun W => Any.strings_Compare Try.laysStrCmp (tx x) (tx y) W
  have he : (tx x).data.toList = x ∧ (tx y).data.toList = y := ⟨rfl, rfl⟩
  rw [he.1, he.2] at hcon
  show Calls Try.prog 43 #[.agg #[.string (tx x), .int .i64 (c x)], .agg #[.string (tx y), .int .i64 (c y)]] W fun e w' => e = .returned (.int .i64 (cmpB x y)) ∧ ∃ q os', w' = grow (W.drewN q) os'
  change ∀ W, Calls Try.prog 44 #[.string (tx x), .string (tx y)] W fun e w' => e = .returned (.int .i64 (cmpB x y)) ∧ w' = W at hcon
  generalize cmpB x y = r at hcon ⊢
  generalize tx x = X at hcon ⊢
  generalize tx y = Y at hcon ⊢
  generalize c x = cx
  generalize c y = cy
  go_enter Try.func43, Try.ntmps43
  go_wp2_with (go_at_call 44; refine (hcon _).mono ?_; rintro e w' ⟨rfl, rfl⟩)
  go_ret
  exact ⟨rfl, 0, _, by rw [alloc_eq_grow, alloc_eq_grow, grow_grow]; rfl⟩
theorem cmpB_cons (a b : UInt8) (x y : Bytes) : cmpB (a :: x) (b :: y) = if a < b then -1 else if b < a then 1 else cmpB x y := rfl
def bl (x y : Bytes) : Bool := Op.bytesLess x y
theorem cmpB_lt : ∀ (x y : Bytes), ltOf cmpB x y = Op.bytesLess x y
  | [], [] => by simp [ltOf, cmpB, compareBytes, Op.bytesLess]
  | [], b :: y => by simp [ltOf, cmpB, compareBytes, Op.bytesLess]
  | a :: x, [] => by simp [ltOf, cmpB, compareBytes, Op.bytesLess]
  | a :: x, b :: y => by
    have ih := cmpB_lt x y
    unfold ltOf at ih ⊢
    rw [cmpB_cons]
    unfold Op.bytesLess
    by_cases h1 : a < b
    · simp [h1]
    · by_cases h2 : b < a
      · have : ¬ a = b := fun he => by subst he; exact h1 h2
        simp [h1, h2, this]
      · have : a = b := by
          apply UInt8.toNat_inj.1
          have e1 : ¬ a.toNat < b.toNat := fun h => h1 (UInt8.lt_iff_toNat_lt.2 h)
          have e2 : ¬ b.toNat < a.toNat := fun h => h2 (UInt8.lt_iff_toNat_lt.2 h)
          omega
        subst this
        simp only [h1, if_false]
        simpa using ih
end Go.Proofs.Ytckoolpjphhfdaa

-- part R5
namespace Go.Proofs.Ytckoolpjphhfdaa
open Go Go.Abs Go.Shelf Go.RowKit Go.Lib Go.Sort Go.Proofs
set_option linter.unusedSimpArgs false
set_option linter.unusedVariables false
def isReact (id : Int) (e : Evt) : Bool := decide ((relE e).1 = 4 ∧ (relE e).2 = id)
def pairE (e : Evt) : Bytes × Bytes := (e.content.text, e.sender)
abbrev Pairs := List (Bytes × Bytes)
def pairStep (id : Int) (D : Pairs) (e : Evt) : Pairs := if isReact id e = true ∧ pairE e ∉ D then D ++ [pairE e] else D
def pairsL (id : Int) (l : List Evt) : Pairs := l.foldl (pairStep id) []
theorem pairs_succ {l : List Evt} {k : Nat} (id : Int) (hk : k < l.length) : pairsL id (l.take (k + 1)) = pairStep id (pairsL id (l.take k)) l[k] := by
  unfold pairsL; rw [List.take_succ_eq_append_getElem hk, List.foldl_append]; rfl
def cnt (D : Pairs) (t : Bytes) : Nat := (D.filter fun p => p.1 == t).length
theorem cnt_snoc (D : Pairs) (p : Bytes × Bytes) (t : Bytes) : cnt (D ++ [p]) t = if p.1 = t then cnt D t + 1 else cnt D t := by
  unfold cnt
  rw [List.filter_append, List.length_append, List.filter_cons]
  by_cases h : p.1 = t
  · have : (p.1 == t) = true := by simpa using h
    rw [this, if_pos h]; rfl
  · have : (p.1 == t) = false := by simpa using h
    rw [this, if_neg h]; rfl
theorem tx_inj {a b : Bytes} (h : tx a = tx b) : a = b := by
  have := congrArg (fun x : ByteArray => x.data.toList) h
  simpa using this
def SeenP (D : Pairs) (ss : Array MapEntry) : Prop := twM ss ∧ ∀ a b : Bytes, qget ss (.two (tx a) (tx b)) = if (a, b) ∈ D then some (.bool true) else none
def CntP (D : Pairs) (cs : Array MapEntry) (cc : Nat) : Prop := txM cs ∧ keysNd cs ∧ mapOK cs cc ∧ ∀ t : Bytes, qget cs (.txt (tx t)) = if cnt D t = 0 then none else some (.int .i64 (cnt D t))
theorem SeenP.zero : SeenP [] #[] := ⟨twM_nil, fun a b => by simp; rfl⟩
theorem CntP.zero : CntP [] #[] 0 := ⟨txM_nil, keysNd_nil, mapOK_nil, fun t => by simp [cnt]; rfl⟩
theorem SeenP.add {D : Pairs} {ss : Array MapEntry} (h : SeenP D ss) (c : Nat) (a b : Bytes) : SeenP (D ++ [(a, b)]) (qput ss c (.two (tx a) (tx b)) (.bool true)).1 := by
  refine ⟨twM_qput h.1 _ _ _ _, fun x y => ?_⟩
  by_cases he : x = a ∧ y = b
  · obtain ⟨rfl, rfl⟩ := he
    rw [qput_same, if_pos (by simp)]
  · have hne : KeyQ.two (tx x) (tx y) ≠ .two (tx a) (tx b) := fun hh => by
      injection hh with h1 h2
      exact he ⟨tx_inj h1, tx_inj h2⟩
    rw [qput_other _ _ _ hne, h.2 x y]
    have : ((x, y) ∈ D ++ [(a, b)]) ↔ (x, y) ∈ D := by
      rw [List.mem_append, List.mem_singleton]
      exact ⟨fun h => h.elim id fun h => by cases h; exact (he ⟨rfl, rfl⟩).elim, .inl⟩
    simp only [this]
theorem CntP.add {D : Pairs} {cs : Array MapEntry} {cc : Nat} (h : CntP D cs cc) (p : Bytes × Bytes) : CntP (D ++ [p]) (qput cs cc (.txt (tx p.1)) (.int .i64 ((cnt D p.1 : Nat) + 1 : Int))).1 (qput cs cc (.txt (tx p.1)) (.int .i64 ((cnt D p.1 : Nat) + 1 : Int))).2 := by
  refine ⟨txM_qput h.1 _ _ _, keysNd_qput h.2.1 _ _ _, mapOK_qput h.2.2.1 _ _, fun t => ?_⟩
  rw [cnt_snoc]
  by_cases he : p.1 = t
  · rw [← he, qput_same, if_pos rfl, if_neg (by omega)]; rfl
  · have hne : KeyQ.txt (tx t) ≠ .txt (tx p.1) := fun hh => by
      injection hh with h1
      exact he (tx_inj h1).symm
    rw [qput_other _ _ _ hne, h.2.2.2 t, if_neg he]
theorem cnt_le (D : Pairs) (t : Bytes) : cnt D t ≤ D.length := List.length_filter_le _ _
theorem pairs_len (id : Int) : ∀ (l : List Evt), (pairsL id l).length ≤ l.length := by
  intro l
  suffices ∀ D : Pairs, (l.foldl (pairStep id) D).length ≤ D.length + l.length from by unfold pairsL; simpa using this []
  induction l with
  | nil => intro D; simp
  | cons e l ih =>
    intro D
    have h := ih (pairStep id D e)
    have : (pairStep id D e).length ≤ D.length + 1 := by unfold pairStep; split <;> simp
    simp only [List.foldl_cons, List.length_cons]; omega
def keyT (e : MapEntry) : Bytes := match e.key with | .string s => s.data.toList | _ => []
theorem CntP.entry {D : Pairs} {cs : Array MapEntry} {cc : Nat} (h : CntP D cs cc) {e : MapEntry} (he : e ∈ cs.toList) : e.key = .string (tx (keyT e)) ∧ e.val = .int .i64 (cnt D (keyT e)) ∧ cnt D (keyT e) ≠ 0 := by
  obtain ⟨s, hs⟩ := h.1 e he
  have hk : keyT e = s.data.toList := by unfold keyT; rw [hs]
  have hts : tx (keyT e) = s := by rw [hk]
  have hq := qget_of h.2.1 (k := .txt (tx (keyT e))) he (by rw [hs, hts]; rfl)
  rw [h.2.2.2] at hq
  by_cases hz : cnt D (keyT e) = 0
  · rw [if_pos hz] at hq; cases hq
  · rw [if_neg hz] at hq
    exact ⟨by rw [hs, hts], (Option.some.inj hq).symm, hz⟩
theorem CntP.mem {D : Pairs} {cs : Array MapEntry} {cc : Nat} (h : CntP D cs cc) {t : Bytes} (ht : cnt D t ≠ 0) : ∃ e ∈ cs.toList, keyT e = t := by
  have hq := h.2.2.2 t
  rw [if_neg ht] at hq
  obtain ⟨e, he, hk, _⟩ := qget_mem hq
  exact ⟨e, he, by unfold keyT; rw [hk]; rfl⟩
theorem cnt_pos {D : Pairs} {t : Bytes} : cnt D t ≠ 0 ↔ t ∈ D.map (·.1) := by
  unfold cnt
  rw [List.mem_map]
  constructor
  · intro h
    obtain ⟨p, hp⟩ := List.exists_mem_of_length_pos (Nat.pos_of_ne_zero h)
    rw [List.mem_filter] at hp
    exact ⟨p, hp.1, by simpa using hp.2⟩
  · rintro ⟨p, hp, rfl⟩ hz
    have : p ∈ D.filter fun q => q.1 == p.1 := List.mem_filter.2 ⟨hp, by simp⟩
    rw [List.eq_nil_of_length_eq_zero hz] at this; cases this
/-- Texts in order, each once. -/
def insT (t : Bytes) : List Bytes → List Bytes
  | [] => [t]
  | x :: xs => if Op.bytesLess t x = true then t :: x :: xs else if t = x then x :: xs else x :: insT t xs
def textsL (D : Pairs) : List Bytes := D.foldl (fun acc p => insT p.1 acc) []
def LtB (x y : Bytes) : Prop := Op.bytesLess x y = true
theorem insT_spec (t : Bytes) : ∀ (X : List Bytes), X.Pairwise LtB → (insT t X).Pairwise LtB ∧ ∀ z, z ∈ insT t X ↔ z ∈ X ∨ z = t
  | [], _ => ⟨List.pairwise_singleton _ _, fun z => by simp [insT]⟩
  | x :: X, h => by
    have hx := List.pairwise_cons.1 h
    unfold insT
    by_cases h1 : Op.bytesLess t x = true
    · rw [if_pos h1]
      refine ⟨List.pairwise_cons.2 ⟨fun z hz => ?_, h⟩, fun z => by rw [List.mem_cons, or_comm]⟩
      rcases List.mem_cons.1 hz with rfl | hz
      · exact h1
      · exact bl_trans _ _ _ h1 (hx.1 z hz)
    · rw [if_neg h1]
      by_cases h2 : t = x
      · rw [if_pos h2]
        exact ⟨h, fun z => ⟨.inl, fun hz => hz.elim id fun hz => by rw [hz, h2]; exact List.mem_cons_self ..⟩⟩
      · rw [if_neg h2]
        obtain ⟨g1, g2⟩ := insT_spec t X hx.2
        have hxt : LtB x t := by
          cases hb : Op.bytesLess x t with
          | true => exact hb
          | false => exact absurd (bl_total _ _ (by simpa using h1) hb) h2
        refine ⟨List.pairwise_cons.2 ⟨fun z hz => ?_, g1⟩, fun z => by rw [List.mem_cons, g2 z, List.mem_cons, or_assoc]⟩
        rcases (g2 z).1 hz with hz | rfl
        · exact hx.1 z hz
        · exact hxt
theorem textsL_spec (D : Pairs) : (textsL D).Pairwise LtB ∧ ∀ z, z ∈ textsL D ↔ z ∈ D.map (·.1) := by
  unfold textsL
  suffices ∀ (D : Pairs) (X : List Bytes), X.Pairwise LtB → (D.foldl (fun acc p => insT p.1 acc) X).Pairwise LtB ∧ ∀ z, z ∈ D.foldl (fun acc p => insT p.1 acc) X ↔ z ∈ X ∨ z ∈ D.map (·.1) from by
    have := this D [] .nil
    exact ⟨this.1, fun z => (this.2 z).trans (by simp)⟩
  intro D
  induction D with
  | nil => intro X h; exact ⟨h, fun z => by simp⟩
  | cons p D ih =>
    intro X h
    obtain ⟨g1, g2⟩ := insT_spec p.1 X h
    obtain ⟨k1, k2⟩ := ih _ g1
    exact ⟨k1, fun z => by rw [List.foldl_cons, k2 z, g2 z, List.map_cons, List.mem_cons, or_assoc]⟩
theorem ltb_unique {A B : List Bytes} (ha : A.Pairwise LtB) (hb : B.Pairwise LtB) (h : ∀ z, z ∈ A ↔ z ∈ B) : A = B := by
  have irr : ∀ x, ¬ LtB x x := fun x hx => by unfold LtB at hx; rw [bl_irrefl] at hx; cases hx
  have na : A.Nodup := ha.imp fun {x y} (hxy : LtB x y) (he : x = y) => irr y (he ▸ hxy)
  have nb : B.Nodup := hb.imp fun {x y} (hxy : LtB x y) (he : x = y) => irr y (he ▸ hxy)
  exact List.Perm.eq_of_pairwise (le := LtB) (fun a b _ _ h1 h2 => (irr a (bl_trans _ _ _ h1 h2)).elim) ha hb ((List.perm_ext_iff_of_nodup na nb).2 h)
theorem cmpB_swo : SWO (ltOf cmpB) where
  irrefl x := by rw [cmpB_lt]; exact bl_irrefl x
  trans x y z h1 h2 := by rw [cmpB_lt] at *; exact bl_trans _ _ _ h1 h2
  ntrans x y z h1 h2 := by
    rw [cmpB_lt] at *
    cases h : Op.bytesLess x z with
    | false => rfl
    | true =>
      cases h3 : Op.bytesLess y x with
      | true => have := bl_trans _ _ _ h3 h; rw [h2] at this; cases this
      | false => have := bl_total _ _ h1 h3; subst this; rw [h2] at h; cases h
theorem cmpB_tot (x y : Bytes) (h1 : ltOf cmpB x y = false) (h2 : ltOf cmpB y x = false) : x = y := by
  rw [cmpB_lt] at h1 h2; exact bl_total _ _ h1 h2
theorem sort_texts {T : List Bytes} {D : Pairs} (hn : T.Nodup) (hm : ∀ t, t ∈ T ↔ t ∈ D.map (·.1)) : (T.mergeSort fun x y => !(ltOf cmpB) y x) = textsL D := by
  have hp := List.mergeSort_perm T fun x y => !(ltOf cmpB) y x
  have hs : (T.mergeSort fun x y => !(ltOf cmpB) y x).Pairwise fun x y => (!(ltOf cmpB) y x) = true := List.pairwise_mergeSort (fun a b c h1 h2 => by
    simp only [Bool.not_eq_true'] at h1 h2 ⊢; exact cmpB_swo.ntrans c b a h2 h1) (fun a b => by
    cases h : ltOf cmpB b a with
    | false => simp
    | true =>
      cases h2 : ltOf cmpB a b with
      | false => simp
      | true => have := cmpB_swo.trans a b a h2 h; rw [cmpB_swo.irrefl] at this; cases this) T
  have hnd : (T.mergeSort fun x y => !(ltOf cmpB) y x).Nodup := hp.nodup_iff.2 hn
  refine ltb_unique ?_ (textsL_spec D).1 fun z => by rw [(textsL_spec D).2, hp.mem_iff, hm]
  refine (hs.and hnd).imp fun {x y} h => ?_
  obtain ⟨h1, h2⟩ := h
  rw [cmpB_lt] at h1
  unfold LtB
  cases hb : Op.bytesLess x y with
  | true => rfl
  | false => exact absurd (bl_total _ _ hb (by simpa using h1)) h2
def cntAV (D : Pairs) (t : Bytes) : AV := .agg [S t, I (cnt D t)]
def reactL (D : Pairs) : List AV := (textsL D).map (cntAV D)
def reactAV (D : Pairs) : AV := .lst 2 (reactL D)
theorem pure_reactAV (D : Pairs) : Pure (reactAV D) := pure_lst fun x hx c hc => by
  obtain ⟨t, _, rfl⟩ := List.mem_map.1 hx
  simp only [cntAV, cells_agg, List.mem_cons, List.not_mem_nil, or_false] at hc
  rcases hc with rfl | rfl <;> exact pure_v _
theorem texts_len (D : Pairs) {T : List Bytes} (hn : T.Nodup) (h : ∀ t ∈ T, t ∈ D.map (·.1)) : T.length ≤ D.length := by
  have := nodup_lenG hn h
  rwa [List.length_map] at this
theorem Seen.texts {D : Pairs} {cs : Array MapEntry} {cc : Nat} {done : List MapEntry} (h : Go.Abs.Seen cs done) (hC : CntP D cs cc) : (done.map keyT).Nodup := by
  have hk := h.keysQ hC.2.1
  have : done.map (·.key) = (done.map keyT).map fun t => Value.string (tx t) := by
    rw [List.map_map]
    exact List.map_congr_left fun e he => (hC.entry (h.mem e he)).1
  rw [this] at hk
  unfold List.Nodup at hk ⊢
  rw [List.pairwise_map] at hk
  exact hk.imp fun {a b} hab he => hab (by rw [he])
set_option maxRecDepth 8000 in
set_option maxHeartbeats 4000000 in
theorem reactions_ac (l : List Evt) (id : Int) (hsz : l.length ≤ 100000) : AC Try.prog 30 [evs l, I id] (reactAV (pairsL id l)) := by
  refine AC.of_body Try.func30 rfl rfl Try.ntmps30 (congrArg Array.toList Try.results30) (by simp) (pures2 (pure_evs _) (pure_I _)) (pure_reactAV _) fun w S' => AWp.of_vc [] ?_
  have hm : l.length ≤ maxLen := by unfold maxLen; omega
  simp [go_sem]
  refine AWp.loop_vc [] (fun m s => ∃ (k v u c cc : Nat) (ss cs : Array MapEntry), k ≤ l.length ∧ m = l.length - k ∧ s.σ 1 = I id ∧ s.σ 15 = evs l ∧ s.σ 16 = I l.length ∧ s.σ 17 = I k ∧ s.σ 5 = .ref 13 v ∧ s.ver 13 = v ∧ s.h 13 = .map ss c ∧ s.σ 6 = .ref 14 u ∧ s.ver 14 = u ∧ s.h 14 = .map cs cc ∧ SeenP (pairsL id (l.take k)) ss ∧ CntP (pairsL id (l.take k)) cs cc) l.length ⟨0, 1, 1, 0, 0, #[], #[], by simp [go_sem, pairsL, SeenP.zero, CntP.zero]⟩ ?_
  rintro m s ⟨k, v, u, c, cc, ss, cs, hk, rfl, h1, h15, h16, h17, h5, hv5, hh5, h6, hv6, hh6, hS, hC⟩
  by_cases hlt : k < l.length
  · have hsu := pairs_succ id hlt
    have hpl := pairs_len id (l.take k)
    rw [List.length_take] at hpl
    generalize pairsL id (l.take k) = D at hS hC hsu hpl
    have hcl := cnt_le D l[k].content.text
    simp [go_sem, h1, h15, h16, h17, h5, hv5, hh5, h6, hv6, hh6, hlt]
    refine CallSem.pure (rel_ac l[k]) (by simp [go_sem]) ?_
    have q1 : qM ss (.two ⟨l[k].content.text.toArray⟩ ⟨l[k].sender.toArray⟩) = true := twM_qM hS.1 _ _
    have q2 : qM cs (.txt ⟨l[k].content.text.toArray⟩) = true := txM_qM hC.1 _
    have q3 : qget ss (.two ⟨l[k].content.text.toArray⟩ ⟨l[k].sender.toArray⟩) = if pairE l[k] ∈ D then some (.bool true) else none := hS.2 l[k].content.text l[k].sender
    have q4 : qget cs (.txt ⟨l[k].content.text.toArray⟩) = if cnt D l[k].content.text = 0 then none else some (.int .i64 (cnt D l[k].content.text)) := hC.2.2.2 l[k].content.text
    have q5 : (qget cs (.txt ⟨l[k].content.text.toArray⟩)).getD (.int .i64 0) = .int .i64 (cnt D l[k].content.text) := by
      rw [q4]; by_cases hz : cnt D l[k].content.text = 0
      · rw [if_pos hz, hz]; rfl
      · rw [if_neg hz]; rfl
    have hwc : IntKind.i64.wrap ((cnt D l[k].content.text : Int) + 1) = (cnt D l[k].content.text : Int) + 1 := wrap_i64 (by omega) (by omega)
    by_cases hr : (relE l[k]).1 = 4 ∧ (relE l[k]).2 = id
    · by_cases hin : pairE l[k] ∈ D
      · have hst : pairStep id D l[k] = D := by unfold pairStep; rw [if_neg (fun h => h.2 hin)]
        rw [if_pos hin] at q3
        simp [go_sem, h1, h15, h16, h17, h5, hv5, hh5, h6, hv6, hh6, hlt, hr, q1, q2, q3, q5, hwc, wrap_succ hlt hm]
        exact ⟨l.length - (k + 1), by omega, k + 1, by omega, rfl, rfl, _, _, _, _, ⟨rfl, rfl⟩, rfl, _, ⟨rfl, rfl⟩, by rw [hsu, hst]; exact hS, by rw [hsu, hst]; exact hC⟩
      · have hst : pairStep id D l[k] = D ++ [pairE l[k]] := by unfold pairStep; rw [if_pos ⟨by unfold isReact; simpa using hr, hin⟩]
        rw [if_neg hin] at q3
        simp [go_sem, h1, h15, h16, h17, h5, hv5, hh5, h6, hv6, hh6, hlt, hr, q1, q2, q3, q5, hwc, wrap_succ hlt hm]
        exact ⟨l.length - (k + 1), by omega, k + 1, by omega, rfl, rfl, _, _, _, _, ⟨rfl, rfl⟩, rfl, _, ⟨rfl, rfl⟩, by rw [hsu, hst]; exact hS.add c _ _, by rw [hsu, hst]; exact hC.add (pairE l[k])⟩
    · have hst : pairStep id D l[k] = D := by unfold pairStep; rw [if_neg (fun h => hr (by have := h.1; unfold isReact at this; simpa using this))]
      simp [go_sem, h1, h15, h16, h17, h5, hv5, hh5, h6, hv6, hh6, hlt, hr, wrap_succ hlt hm]
      exact ⟨l.length - (k + 1), by omega, k + 1, by omega, rfl, rfl, _, _, _, _, ⟨rfl, rfl⟩, rfl, _, ⟨rfl, rfl⟩, by rw [hsu, hst]; exact hS, by rw [hsu, hst]; exact hC⟩
  · obtain rfl : k = l.length := by omega
    simp [go_sem, h1, h15, h16, h17, h5, hv5, hh5, h6, hv6, hh6]
    rw [List.take_of_length_le (Nat.le_refl _)] at hS hC
    have hpl := pairs_len id l
    generalize pairsL id l = D at hS hC hpl ⊢
    refine ⟨hC.2.2.1, ?_⟩
    refine AWp.ownNil 10 58 2 (by simp [go_sem]) ?_
    refine AWp.loop_vc [] (fun m s => ∃ (done : List MapEntry) (v u : Nat), m = cs.size - done.length ∧ Go.Abs.Seen cs done ∧ s.σ 10 = .ref 10 v ∧ s.ver 10 = v ∧ s.h 10 = .arr 58 2 ((done.map keyT).map (cntAV D)) ∧ s.σ 47 = .rptr 47 u 0 0 ∧ s.ver 47 = u ∧ s.h 47 = .iter cs cc done) cs.size ⟨[], _, _, by simp [go_sem, Seen.nil]; exact ⟨rfl, rfl⟩⟩ ?_
    clear h1 h15 h16 h17 h5 hv5 hh5 h6 hv6 hh6
    rintro m s ⟨done, v, u, rfl, hS', h10, hv, hh, h47, hu, hi⟩
    have hdl := hS'.len
    have htn := Seen.texts hS' hC
    have htl : (done.map keyT).length ≤ D.length := texts_len D htn fun t ht => by
      obtain ⟨e, he, rfl⟩ := List.mem_map.1 ht
      exact cnt_pos.1 (hC.entry (hS'.mem e he)).2.2
    simp [go_sem, h10, hv, hh, h47, hu, hi]
    refine NextK.mk (fun hall => ?_) fun e he hnew => ?_
    · have hm : ∀ t, t ∈ done.map keyT ↔ t ∈ D.map (·.1) := fun t => by
        rw [List.mem_map]
        constructor
        · rintro ⟨e, he, rfl⟩
          exact cnt_pos.1 (hC.entry (hS'.mem e he)).2.2
        · intro ht
          obtain ⟨e, he, hk⟩ := hC.mem (cnt_pos.2 ht)
          exact ⟨e, (hS'.all hC.2.2.1 hall e).2 he, hk⟩
      have hsrt := sort_texts htn hm
      unfold reactAV reactL
      rw [← hsrt]
      generalize done.map keyT = T at hh htl ⊢
      have hrow : T.map (cntAV D) = aggs (ctc36 fun t => (cnt D t : Int)) T := rfl
      rw [hrow] at hh
      simp [go_sem, h10, hv, hh, h47, hu, hi]
      refine CallSem.sortK (ρ := Try.sortF42_ren) (id := 10) (e := 58) (k := 2) (l := T) Try.sortF42 ⟨_, Try.func42, rfl, rfl⟩
        Try.isAgg58 Try.sizeOf58 (ctc36 fun t => (cnt D t : Int)) (by decide) (fun x => rfl) (fun x v hv => by simp only [ctc36, List.mem_cons, List.not_mem_nil, or_false] at hv; rcases hv with rfl | rfl <;> rfl) cmpB cmpB_swo cmpB_tot (enters_of Try.func43 (by kernel_rfl) rfl) (closure36_calls fun t => (cnt D t : Int)) (by simp [go_sem, hv]) (by simp [go_sem, hh]; try rfl) (by simp [go_sem]) (by omega) ?_
      have hrow2 : aggs (ctc36 fun t => (cnt D t : Int)) (T.mergeSort fun x y => !(ltOf cmpB) y x) = (T.mergeSort fun x y => !(ltOf cmpB) y x).map (cntAV D) := rfl
      rw [hrow2]
      generalize (T.mergeSort fun x y => !(ltOf cmpB) y x).map (cntAV D) = R
      simp [go_sem, h10, hv]
      refine PostR.retW [10] ?_ (.refl _)
      simp [go_sem, h10, hv]
    · obtain ⟨hek, hev, hne⟩ := hC.entry he
      have hS2 := hS'.snoc he hnew
      have hdl2 := hS2.len
      rw [List.length_append, List.length_cons, List.length_nil] at hdl2
      rw [List.length_map] at htl
      have hsn : ((done ++ [e]).map keyT).map (cntAV D) = (done.map keyT).map (cntAV D) ++ [cntAV D (keyT e)] := by rw [List.map_append, List.map_append]; rfl
      have hrl : ((done.map keyT).map (cntAV D)).length = done.length := by rw [List.length_map, List.length_map]
      generalize (done.map keyT).map (cntAV D) = R at hh hsn hrl
      simp [go_sem, h10, hv, hh, h47, hu, hi, hek, hev]
      exact ⟨⟨by omega, by omega⟩, cs.size - (done ++ [e]).length, by rw [List.length_append, List.length_cons, List.length_nil]; omega, done ++ [e], rfl, hS2, by rw [← List.map_map, hsn]; rfl, rfl⟩

end Go.Proofs.Ytckoolpjphhfdaa

-- part R6
namespace Go.Proofs.Ytckoolpjphhfdaa
open Go Go.Abs Go.Proofs
set_option linter.unusedSimpArgs false
set_option linter.unusedVariables false
attribute [go_sem] reactAV
/-- Is the second event the later one? -/
def laterE (x e : Evt) : Bool := decide (x.time < e.time ∨ (e.time = x.time ∧ x.id < e.id))
def latE (L : List Evt) (last : Int) (e : Evt) : Int :=
  match getE L last with
  | none => e.id
  | some x => if laterE x e = true then e.id else last
set_option maxRecDepth 8000 in
set_option maxHeartbeats 4000000 in
theorem latest_ac (L : List Evt) (last : Int) (e : Evt) : AC Try.prog 31 [evs L, I last, ev e] (I (latE L last e)) := by
  refine AC.of_body Try.func31 rfl rfl Try.ntmps31 (congrArg Array.toList Try.results31) (by simp) (pures3 (pure_evs _) (pure_I _) (pure_ev _)) (pure_I _) fun w S' => AWp.of_vc [] ?_
  unfold latE
  simp [go_sem]
  refine CallSem.pure (find_ac L last) (by simp [go_sem]) ?_
  cases hg : getE L last with
  | none =>
    simp [go_sem]
    refine PostR.ret ?_
    simp [go_sem]
  | some x =>
    unfold laterE
    by_cases h1 : x.time < e.time
    · simp [go_sem, h1]
      refine PostR.ret ?_
      simp [go_sem]
    · by_cases h2 : e.time = x.time
      · by_cases h3 : x.id < e.id
        · simp [go_sem, h1, h2, h3]
          refine PostR.ret ?_
          simp [go_sem]
        · simp [go_sem, h1, h2, h3]
          refine PostR.ret ?_
          simp [go_sem]
      · simp [go_sem, h1, h2]
        refine PostR.ret ?_
        simp [go_sem]
structure SumD where
  edit : Int
  pairs : Pairs
  thread : Int
  last : Int

def sumc (s : SumD) : List AV := [I s.edit, reactAV s.pairs, I s.thread, I s.last]
def sumAV (s : SumD) : AV := .agg (sumc s)
theorem pure_sumAV (s : SumD) : Pure (sumAV s) := pure_agg fun c hc => by
  simp only [sumc, List.mem_cons, List.not_mem_nil, or_false] at hc
  rcases hc with rfl | rfl | rfl | rfl <;> first | exact pure_v _ | exact pure_reactAV _
def sumStep (K : List Evt) (root : Evt) (id : Int) (a : Int × Int × Int) (e : Evt) : Int × Int × Int :=
  if (relE e).1 = 3 ∧ (relE e).2 = id then (if e.sender = root.sender then (latE K a.1 e, a.2.1, a.2.2) else a)
  else if (relE e).1 = 2 ∧ (relE e).2 = id then (a.1, a.2.1 + 1, latE K a.2.2 e) else a
def sumFold (K : List Evt) (root : Evt) (id : Int) (L : List Evt) : Int × Int × Int := L.foldl (sumStep K root id) (0, 0, 0)
theorem sum_succ {K L : List Evt} {k : Nat} (root : Evt) (id : Int) (hk : k < L.length) : sumFold K root id (L.take (k + 1)) = sumStep K root id (sumFold K root id (L.take k)) L[k] := by
  unfold sumFold; rw [List.take_succ_eq_append_getElem hk, List.foldl_append]; rfl
theorem sum_thread (K : List Evt) (root : Evt) (id : Int) (L : List Evt) : 0 ≤ (sumFold K root id L).2.1 ∧ (sumFold K root id L).2.1 ≤ L.length := by
  unfold sumFold
  suffices ∀ (L : List Evt) (a : Int × Int × Int), a.2.1 ≤ (L.foldl (sumStep K root id) a).2.1 ∧ (L.foldl (sumStep K root id) a).2.1 ≤ a.2.1 + L.length from by simpa using this L (0, 0, 0)
  intro L
  induction L with
  | nil => intro a; simp
  | cons e L ih =>
    intro a
    have h := ih (sumStep K root id a e)
    have : a.2.1 ≤ (sumStep K root id a e).2.1 ∧ (sumStep K root id a e).2.1 ≤ a.2.1 + 1 := by
      unfold sumStep
      split
      · split <;> (constructor <;> first | exact Int.le_refl _ | (show _ ≤ _ + 1; omega) | (simp; omega))
      · split <;> (constructor <;> first | exact Int.le_refl _ | (show _ ≤ _ + 1; omega) | (simp; omega))
    simp only [List.foldl_cons, List.length_cons]
    omega
def sumOf (l : List Evt) (id : Int) : SumD :=
  match getE (onceL l) id with
  | none => ⟨0, [], 0, 0⟩
  | some root => ⟨(sumFold (onceL l) root id (onceL l)).1, pairsL id (onceL l), (sumFold (onceL l) root id (onceL l)).2.1, (sumFold (onceL l) root id (onceL l)).2.2⟩
theorem onceL_len (l : List Evt) : (onceL l).length ≤ l.length := onceU_len l l.length
set_option maxRecDepth 8000 in
set_option maxHeartbeats 4000000 in
theorem sum_ac (l : List Evt) (id : Int) (hsz : l.length ≤ 100000) : AC Try.prog 15 [evs l, I id] (sumAV (sumOf l id)) := by
  refine AC.of_body Try.func15 rfl rfl Try.ntmps15 (congrArg Array.toList Try.results15) (by simp) (pures2 (pure_evs _) (pure_I _)) (pure_sumAV _) fun w S' => AWp.of_vc [] ?_
  simp [go_sem]
  refine CallSem.pure (known_ac l hsz) (by simp [go_sem]) ?_
  have hol := onceL_len l
  unfold sumOf
  generalize onceL l = K at hol ⊢
  have hm : K.length ≤ maxLen := by unfold maxLen; omega
  simp [go_sem]
  refine CallSem.pure (find_ac K id) (by simp [go_sem]) ?_
  cases hg : getE K id with
  | none =>
    simp [go_sem]
    refine PostR.retW [] (r0 := .agg [I 0, .v (.slice none 0 0), I 0, I 0]) (by simp [go_sem]) ?_
    exact .one (.one (.agg ⟨.refl _, .nil _, .refl _, .refl _, trivial⟩))
  | some root =>
    simp [go_sem]
    refine CallSem.pure (reactions_ac K id (by omega)) (by simp [go_sem]) ?_
    simp [go_sem]
    refine AWp.loop_vc [] (fun m s => ∃ k : Nat, k ≤ K.length ∧ m = K.length - k ∧ s.σ 0 = evs K ∧ s.σ 1 = I id ∧ s.σ 25 = evs K ∧ s.σ 26 = I K.length ∧ s.σ 27 = I k ∧ s.σ 5 = .rptr 5 1 0 0 ∧ s.ver 5 = 1 ∧ s.h 5 = .box (evc root) ∧ s.σ 4 = .rptr 4 1 0 0 ∧ s.ver 4 = 1 ∧ s.h 4 = .box [I 0, .v (.slice none 0 0), I 0, I 0] ∧ s.σ 7 = .rptr 7 1 0 0 ∧ s.ver 7 = 1 ∧ s.h 7 = .box [I (sumFold K root id (K.take k)).1, reactAV (pairsL id K), I (sumFold K root id (K.take k)).2.1, I (sumFold K root id (K.take k)).2.2]) K.length ⟨0, by simp [go_sem, sumFold]⟩ ?_
    rintro m s ⟨k, hk, rfl, h0, h1, h25, h26, h27, h5, hv5, hh5, h4, hv4, hh4, h7, hv7, hh7⟩
    by_cases hlt : k < K.length
    · have hsuc := sum_succ (K := K) root id hlt
      have hth := sum_thread K root id (K.take k)
      rw [List.length_take] at hth
      generalize sumFold K root id (K.take k) = a at hh7 hsuc hth
      obtain ⟨x, t, z⟩ := a
      simp only at hh7 hth
      have hwt : IntKind.i64.wrap (t + 1) = t + 1 := wrap_i64 (by omega) (by omega)
      simp [go_sem, h0, h1, h25, h26, h27, h5, hv5, hh5, h4, hv4, hh4, h7, hv7, hh7, hlt]
      refine CallSem.pure (rel_ac K[k]) (by simp [go_sem]) ?_
      unfold sumStep at hsuc
      by_cases hA : (relE K[k]).1 = 3 ∧ (relE K[k]).2 = id
      · rw [if_pos hA] at hsuc
        by_cases hs : K[k].sender = root.sender
        · rw [if_pos hs] at hsuc
          simp [go_sem, h0, h1, h25, h26, h27, h5, hv5, hh5, h4, hv4, hh4, h7, hv7, hh7, hlt, hA, hs]
          refine CallSem.pure (latest_ac K x K[k]) (by simp [go_sem]) ?_
          simp [go_sem, h0, h1, h25, h26, h27, h5, hv5, hh5, h4, hv4, hh4, h7, hv7, hh7, hlt, wrap_succ hlt hm]
          exact ⟨K.length - (k + 1), by omega, k + 1, by omega, rfl, rfl, by rw [hsuc], by rw [hsuc], by rw [hsuc]⟩
        · rw [if_neg hs] at hsuc
          simp [go_sem, h0, h1, h25, h26, h27, h5, hv5, hh5, h4, hv4, hh4, h7, hv7, hh7, hlt, hA, hs, wrap_succ hlt hm]
          exact ⟨K.length - (k + 1), by omega, k + 1, by omega, rfl, rfl, by rw [hsuc], by rw [hsuc], by rw [hsuc]⟩
      · rw [if_neg hA] at hsuc
        by_cases hB : (relE K[k]).1 = 2 ∧ (relE K[k]).2 = id
        · rw [if_pos hB] at hsuc
          simp [go_sem, h0, h1, h25, h26, h27, h5, hv5, hh5, h4, hv4, hh4, h7, hv7, hh7, hlt, hB, hwt]
          refine CallSem.pure (latest_ac K z K[k]) (by simp [go_sem]) ?_
          simp [go_sem, h0, h1, h25, h26, h27, h5, hv5, hh5, h4, hv4, hh4, h7, hv7, hh7, hlt, wrap_succ hlt hm]
          exact ⟨K.length - (k + 1), by omega, k + 1, by omega, rfl, rfl, by rw [hsuc], by rw [hsuc], by rw [hsuc]⟩
        · rw [if_neg hB] at hsuc
          simp [go_sem, h0, h1, h25, h26, h27, h5, hv5, hh5, h4, hv4, hh4, h7, hv7, hh7, hlt, hA, hB, wrap_succ hlt hm]
          exact ⟨K.length - (k + 1), by omega, k + 1, by omega, rfl, rfl, by rw [hsuc], by rw [hsuc], by rw [hsuc]⟩
    · obtain rfl : k = K.length := by omega
      rw [List.take_of_length_le (Nat.le_refl _)] at hh7
      simp [go_sem, h0, h1, h25, h26, h27, h5, hv5, hh5, h4, hv4, hh4, h7, hv7, hh7]
      refine PostR.ret ?_
      simp [go_sem, h0, h1, h25, h26, h27, h5, hv5, hh5, h4, hv4, hh4, h7, hv7, hh7, sumAV, sumc]

end Go.Proofs.Ytckoolpjphhfdaa

-- part R7
namespace Go.Proofs.Ytckoolpjphhfdaa
open Go Go.Abs Go.Proofs
set_option linter.unusedSimpArgs false
set_option linter.unusedVariables false
def threadsL (K : List Evt) : List Int := (K.filter fun e => decide ((relE e).1 = 2)).map fun e => (relE e).2
theorem threads_succ {K : List Evt} {k : Nat} (hk : k < K.length) : threadsL (K.take (k + 1)) = threadsL (K.take k) ++ if (relE K[k]).1 = 2 then [(relE K[k]).2] else [] := by
  unfold threadsL
  rw [List.take_succ_eq_append_getElem hk, List.filter_append, List.map_append]
  congr 1
  by_cases h : (relE K[k]).1 = 2 <;> simp [h]
theorem threads_len (K : List Evt) : (threadsL K).length ≤ K.length := by
  unfold threadsL; rw [List.length_map]; exact List.length_filter_le _ _
set_option maxRecDepth 8000 in
set_option maxHeartbeats 4000000 in
theorem threads_ac (l : List Evt) (hsz : l.length ≤ 100000) : AC Try.prog 20 [evs l] (ints (sortedL (threadsL (onceL l)))) := by
  refine AC.of_body Try.func20 rfl rfl Try.ntmps20 (congrArg Array.toList Try.results20) (by simp) (pures1 (pure_evs _)) (pure_ints _) fun w S' => AWp.of_vc [] ?_
  have hol := onceL_len l
  simp [go_sem]
  refine CallSem.pure (known_ac l hsz) (by simp [go_sem]) ?_
  generalize onceL l = K at hol ⊢
  have hm : K.length ≤ maxLen := by unfold maxLen; omega
  simp [go_sem]
  refine AWp.ownNil 3 3 1 (by simp [go_sem]) ?_
  refine AWp.loop_vc [] (fun m s => ∃ k v : Nat, k ≤ K.length ∧ m = K.length - k ∧ s.σ 8 = evs K ∧ s.σ 9 = I K.length ∧ s.σ 10 = I k ∧ s.σ 3 = .ref 3 v ∧ s.ver 3 = v ∧ s.h 3 = .arr 3 1 ((threadsL (K.take k)).map I)) K.length ⟨0, by simp [go_sem, threadsL]⟩ ?_
  rintro m s ⟨k, v, hk, rfl, h8, h9, h10, h3, hv3, hh3⟩
  by_cases hlt : k < K.length
  · have hsu := threads_succ hlt
    have htl := threads_len (K.take k)
    rw [List.length_take] at htl
    generalize threadsL (K.take k) = T at hh3 hsu htl
    simp [go_sem, h8, h9, h10, h3, hv3, hh3, hlt]
    refine CallSem.pure (rel_ac K[k]) (by simp [go_sem]) ?_
    by_cases hr : (relE K[k]).1 = 2
    · rw [if_pos hr] at hsu
      simp [go_sem, h8, h9, h10, h3, hv3, hh3, hlt, hr, wrap_succ hlt hm]
      exact ⟨⟨by omega, by omega⟩, K.length - (k + 1), by omega, k + 1, by omega, rfl, rfl, by rw [hsu]; simp [I]⟩
    · rw [if_neg hr] at hsu
      simp [go_sem, h8, h9, h10, h3, hv3, hh3, hlt, hr, wrap_succ hlt hm]
      exact ⟨K.length - (k + 1), by omega, k + 1, by omega, rfl, rfl, by rw [hsu]; simp⟩
  · obtain rfl : k = K.length := by omega
    rw [List.take_of_length_le (Nat.le_refl _)] at hh3
    have htl := threads_len K
    generalize threadsL K = T at hh3 htl ⊢
    simp [go_sem, h8, h9, h10, h3, hv3, hh3]
    refine CallSem.freeze 3 ?_
    simp [go_sem, h8, h9, h10, h3, hv3, hh3]
    refine CallSem.pure (numSorted_ac T (by omega)) (by simp [go_sem]) ?_
    rw [sortedSet_eq]
    simp [go_sem]
    refine PostR.ret ?_
    simp [go_sem]

def showOf (l : List Evt) (id : Int) : Bytes × Int :=
  match getE (onceL l) id with
  | none => ([], 5)
  | some e => if e.kind = 11 then (match getE (onceL l) (sumOf (onceL l) id).edit with
    | some f => (f.content.text, 0)
    | none => (e.content.text, 0)) else ([], 1)
theorem pureR_SI (a : Bytes) (b : Int) : PureR (.tup [S a, I b]) := by
  intro r hr
  simp only [List.mem_cons, List.not_mem_nil, or_false] at hr
  rcases hr with rfl | rfl <;> exact pure_v _
set_option maxRecDepth 8000 in
set_option maxHeartbeats 4000000 in
theorem show_ac (l : List Evt) (id : Int) (hsz : l.length ≤ 100000) : AC Try.prog 17 [evs l, I id] (.tup [S (showOf l id).1, I (showOf l id).2]) := by
  refine AC.of_body Try.func17 rfl rfl Try.ntmps17 (congrArg Array.toList Try.results17) (by simp) (pures2 (pure_evs _) (pure_I _)) (pureR_SI _ _) fun w S' => AWp.of_vc [] ?_
  have hol := onceL_len l
  unfold showOf
  simp [go_sem]
  refine CallSem.pure (known_ac l hsz) (by simp [go_sem]) ?_
  generalize onceL l = K at hol ⊢
  simp [go_sem]
  refine CallSem.pure (find_ac K id) (by simp [go_sem]) ?_
  cases hg : getE K id with
  | none =>
    simp [go_sem]
    refine PostR.ret ?_
    simp [go_sem]
  | some e =>
    by_cases hk : e.kind = 11
    · simp [go_sem, hk]
      refine CallSem.pure (sum_ac K id (by omega)) (by simp [go_sem]) ?_
      simp [go_sem, sumAV, sumc]
      refine CallSem.pure (find_ac K (sumOf K id).edit) (by simp [go_sem]) ?_
      cases hg2 : getE K (sumOf K id).edit with
      | none =>
        simp [go_sem]
        refine PostR.ret ?_
        simp [go_sem]
      | some f =>
        simp [go_sem]
        refine PostR.ret ?_
        simp [go_sem]
    · simp [go_sem, hk]
      refine PostR.ret ?_
      simp [go_sem]

end Go.Proofs.Ytckoolpjphhfdaa

-- part R8
namespace Go.Proofs.Ytckoolpjphhfdaa
open Go Go.Abs Go.Proofs
set_option linter.unusedSimpArgs false
set_option linter.unusedVariables false
set_option maxRecDepth 8000 in
set_option maxHeartbeats 4000000 in
theorem containsFunc_gen (f : FuncId) (cap : List AV) (p : Evt → Bool) (hp : ∀ e, AC Try.prog f (ev e :: cap) (B (p e))) (hcap : ∀ c ∈ cap, Pure c) (hcc : ∀ c ∈ cap, ∀ d ∈ c.cells, Pure d) (l : List Evt) : AC Try.prog 39 [evs l, .fn (.func f) [] cap] (B (l.find? p).isSome) := by
  refine AC.of_body Try.func39 rfl rfl Try.ntmps39 (congrArg Array.toList Try.results39) (by simp) (pures2 (pure_evs _) (pure_clo hcap)) (pure_B _) fun w S' => AWp.of_vc [] ?_
  simp [go_sem]
  refine CallSem.pure (indexFunc_gen f cap p hp hcap l) (by simp [go_sem]) ?_
  rcases idxI_find p l with ⟨hf, hi⟩ | ⟨k, hk, hf, hi⟩
  · simp [go_sem, hi, hf]
    refine PostR.ret ?_
    simp [go_sem]
  · have h0 : (0 : Int) ≤ (k : Int) := by omega
    simp [go_sem, hi, hf, h0]
    refine PostR.ret ?_
    simp [go_sem]

theorem pure_eptr2 (a b : Int) : Pure (.eptr [I a, I b] 0) := pure_eptr fun c h => by
  simp only [List.mem_cons, List.not_mem_nil, or_false] at h
  rcases h with rfl | rfl <;> exact pure_I _
def sameB (e o : Evt) : Bool := decide (¬ o.id = e.id ∧ ((relE o).1 = (relE e).1 ∧ (relE o).2 = (relE e).2) ∧ o.sender = e.sender ∧ o.content.text = e.content.text)
set_option maxRecDepth 8000 in
set_option maxHeartbeats 4000000 in
theorem validC_ac (e o : Evt) : AC Try.prog 38 [ev o, .eptr (evc e) 0, .eptr [I (relE e).1, I (relE e).2] 0] (B (sameB e o)) := by
  refine AC.of_body Try.func38 rfl rfl Try.ntmps38 (congrArg Array.toList Try.results38) (by simp) (pures3 (pure_ev _) (pure_eptr (pure_evc _)) (pure_eptr2 _ _)) (pure_B _) fun w S' => AWp.of_vc [] ?_
  unfold sameB
  simp [go_sem]
  refine AWp.drawAll rfl (by kernel_rfl) ?_
  by_cases h1 : o.id = e.id
  · simp [go_sem, h1]
    refine PostR.ret ?_
    simp [go_sem]
  simp [go_sem, h1]
  refine CalmThen.pure (rel_ac o) rfl ?_
  by_cases h2 : (relE o).1 = (relE e).1 ∧ (relE o).2 = (relE e).2
  · by_cases h3 : o.sender = e.sender
    · simp [go_sem, h1, h2, h3]
      refine PostR.ret ?_
      simp [go_sem]
      rw [Bool.eq_iff_iff]; simp
    · simp [go_sem, h1, h2, h3]
      refine PostR.ret ?_
      simp [go_sem]
  · simp [go_sem, h1, h2]
    refine PostR.ret ?_
    simp [go_sem]
    exact fun a b => absurd ⟨a, b⟩ h2

def hasSame (K : List Evt) (e : Evt) : Bool := (K.find? (sameB e)).isSome
def validOf (l : List Evt) (e : Evt) : Int :=
  if (relE e).1 = 0 then 0 else match getE (onceL l) (relE e).2 with
  | none => 5
  | some t => if ¬ t.kind = 11 ∨ ((relE e).1 = 2 ∧ (relE t).1 = 2) then 1 else if (relE e).1 = 3 ∧ ¬ t.sender = e.sender then 18 else if (relE e).1 = 4 ∧ hasSame (onceL l) e = true then 4 else 0
set_option maxRecDepth 8000 in
set_option maxHeartbeats 4000000 in
theorem valid_ac (l : List Evt) (e : Evt) (hsz : l.length ≤ 100000) : AC Try.prog 22 [evs l, ev e] (I (validOf l e)) := by
  refine AC.of_body Try.func22 rfl rfl Try.ntmps22 (congrArg Array.toList Try.results22) (by simp) (pures2 (pure_evs _) (pure_ev _)) (pure_I _) fun w S' => AWp.of_vc [] ?_
  unfold validOf
  simp [go_sem]
  refine CallSem.pure (rel_ac e) (by simp [go_sem]) ?_
  by_cases h0 : (relE e).1 = 0
  · simp [go_sem, h0]
    refine PostR.ret ?_
    simp [go_sem]
  simp [go_sem, h0]
  refine CallSem.pure (known_ac l hsz) (by simp [go_sem]) ?_
  generalize onceL l = K
  simp [go_sem]
  refine CallSem.pure (find_ac K (relE e).2) (by simp [go_sem]) ?_
  cases hg : getE K (relE e).2 with
  | none =>
    simp [go_sem]
    refine PostR.ret ?_
    simp [go_sem]
  | some t =>
    by_cases h1 : t.kind = 11
    · by_cases h2 : (relE e).1 = 2
      · simp [go_sem, h1, h2]
        refine CallSem.pure (rel_ac t) (by simp [go_sem]) ?_
        by_cases h3 : (relE t).1 = 2
        · simp [go_sem, h1, h2, h3]
          refine PostR.ret ?_
          simp [go_sem]
        · simp [go_sem, h1, h2, h3]
          refine PostR.ret ?_
          simp [go_sem]
      · by_cases h4 : (relE e).1 = 3
        · by_cases h5 : t.sender = e.sender
          · simp [go_sem, h1, h2, h4, h5]
            refine PostR.ret ?_
            simp [go_sem]
          · have h5' : (t.sender == e.sender) = false := by simpa using h5
            simp [go_sem, h1, h2, h4, h5, h5']
            refine PostR.ret ?_
            simp [go_sem]
        · by_cases h6 : (relE e).1 = 4
          · simp [go_sem, h1, h2, h4, h6]
            have hcl : ∀ o, AC Try.prog 38 (ev o :: [.eptr (evc e) 0, .eptr [I 4, I (relE e).2] 0]) (B (sameB e o)) := fun o => by
              have := validC_ac e o
              rw [h6] at this; exact this
            have hcap : ∀ c ∈ [AV.eptr (evc e) 0, .eptr [I 4, I (relE e).2] 0], Pure c := fun c hc => by
              simp only [List.mem_cons, List.not_mem_nil, or_false] at hc
              rcases hc with rfl | rfl
              · exact pure_eptr (pure_evc _)
              · exact pure_eptr2 _ _
            refine CallSem.freeze 5 ?_
            simp [go_sem]
            refine CallSem.pure (r := B (hasSame K e)) (containsFunc_gen 38 [.eptr (evc e) 0, .eptr [I 4, I (relE e).2] 0] (sameB e) hcl hcap (fun c hc d hd => by
              simp only [List.mem_cons, List.not_mem_nil, or_false] at hc
              rcases hc with rfl | rfl
              · rw [show (AV.eptr (evc e) 0).cells = [.eptr (evc e) 0] from rfl, List.mem_singleton] at hd; subst hd; exact pure_eptr (pure_evc _)
              · rw [show (AV.eptr [I 4, I (relE e).2] 0).cells = [.eptr [I 4, I (relE e).2] 0] from rfl, List.mem_singleton] at hd; subst hd; exact pure_eptr2 _ _) K) (by simp [go_sem]) ?_
            cases hx : hasSame K e with
            | true =>
              simp [go_sem]
              refine PostR.ret ?_
              simp [go_sem]
            | false =>
              simp [go_sem]
              refine PostR.ret ?_
              simp [go_sem]
          · simp [go_sem, h1, h2, h4, h6]
            refine PostR.ret ?_
            simp [go_sem]
    · simp [go_sem, h1]
      refine PostR.ret ?_
      simp [go_sem]

end Go.Proofs.Ytckoolpjphhfdaa
