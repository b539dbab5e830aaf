/- Contracts of chapter 36: reactions. No condition. -/
import Derived.Test.YtckoolpjphhfdaaR4
namespace Go.Proofs.Ytckoolpjphhfdaa
open Go Go.Abs Go.Shelf Go.RowKit Go.Lib Go.Sort Go.Proofs
set_option linter.unusedSimpArgs false
set_option linter.unusedVariables false
def isReact (id : Int) (e : Evt) : Bool := decide ((relE e).1 = 4 ∧ (relE e).2 = id)
def pairE (e : Evt) : Bytes × Bytes := (e.content.text, e.sender)
abbrev Pairs := List (Bytes × Bytes)
def pairStep (id : Int) (D : Pairs) (e : Evt) : Pairs := if isReact id e = true ∧ pairE e ∉ D then D ++ [pairE e] else D
def pairsL (id : Int) (l : List Evt) : Pairs := l.foldl (pairStep id) []
theorem pairs_succ {l : List Evt} {k : Nat} (id : Int) (hk : k < l.length) : pairsL id (l.take (k + 1)) = pairStep id (pairsL id (l.take k)) l[k] := by
  unfold pairsL; rw [List.take_succ_eq_append_getElem hk, List.foldl_append]; rfl
def cnt (D : Pairs) (t : Bytes) : Nat := (D.filter fun p => p.1 == t).length
theorem cnt_snoc (D : Pairs) (p : Bytes × Bytes) (t : Bytes) : cnt (D ++ [p]) t = if p.1 = t then cnt D t + 1 else cnt D t := by
  unfold cnt
  rw [List.filter_append, List.length_append, List.filter_cons]
  by_cases h : p.1 = t
  · have : (p.1 == t) = true := by simpa using h
    rw [this, if_pos h]; rfl
  · have : (p.1 == t) = false := by simpa using h
    rw [this, if_neg h]; rfl
theorem tx_inj {a b : Bytes} (h : tx a = tx b) : a = b := by
  have := congrArg (fun x : ByteArray => x.data.toList) h
  simpa using this
def SeenP (D : Pairs) (ss : Array MapEntry) : Prop := twM ss ∧ ∀ a b : Bytes, qget ss (.two (tx a) (tx b)) = if (a, b) ∈ D then some (.bool true) else none
def CntP (D : Pairs) (cs : Array MapEntry) (cc : Nat) : Prop := txM cs ∧ keysNd cs ∧ mapOK cs cc ∧ ∀ t : Bytes, qget cs (.txt (tx t)) = if cnt D t = 0 then none else some (.int .i64 (cnt D t))
theorem SeenP.zero : SeenP [] #[] := ⟨twM_nil, fun a b => by simp; rfl⟩
theorem CntP.zero : CntP [] #[] 0 := ⟨txM_nil, keysNd_nil, mapOK_nil, fun t => by simp [cnt]; rfl⟩
theorem SeenP.add {D : Pairs} {ss : Array MapEntry} (h : SeenP D ss) (c : Nat) (a b : Bytes) : SeenP (D ++ [(a, b)]) (qput ss c (.two (tx a) (tx b)) (.bool true)).1 := by
  refine ⟨twM_qput h.1 _ _ _ _, fun x y => ?_⟩
  by_cases he : x = a ∧ y = b
  · obtain ⟨rfl, rfl⟩ := he
    rw [qput_same, if_pos (by simp)]
  · have hne : KeyQ.two (tx x) (tx y) ≠ .two (tx a) (tx b) := fun hh => by
      injection hh with h1 h2
      exact he ⟨tx_inj h1, tx_inj h2⟩
    rw [qput_other _ _ _ hne, h.2 x y]
    have : ((x, y) ∈ D ++ [(a, b)]) ↔ (x, y) ∈ D := by
      rw [List.mem_append, List.mem_singleton]
      exact ⟨fun h => h.elim id fun h => by cases h; exact (he ⟨rfl, rfl⟩).elim, .inl⟩
    simp only [this]
theorem CntP.add {D : Pairs} {cs : Array MapEntry} {cc : Nat} (h : CntP D cs cc) (p : Bytes × Bytes) : CntP (D ++ [p]) (qput cs cc (.txt (tx p.1)) (.int .i64 ((cnt D p.1 : Nat) + 1 : Int))).1 (qput cs cc (.txt (tx p.1)) (.int .i64 ((cnt D p.1 : Nat) + 1 : Int))).2 := by
  refine ⟨txM_qput h.1 _ _ _, keysNd_qput h.2.1 _ _ _, mapOK_qput h.2.2.1 _ _, fun t => ?_⟩
  rw [cnt_snoc]
  by_cases he : p.1 = t
  · rw [← he, qput_same, if_pos rfl, if_neg (by omega)]; rfl
  · have hne : KeyQ.txt (tx t) ≠ .txt (tx p.1) := fun hh => by
      injection hh with h1
      exact he (tx_inj h1).symm
    rw [qput_other _ _ _ hne, h.2.2.2 t, if_neg he]
theorem cnt_le (D : Pairs) (t : Bytes) : cnt D t ≤ D.length := List.length_filter_le _ _
theorem pairs_len (id : Int) : ∀ (l : List Evt), (pairsL id l).length ≤ l.length := by
  intro l
  suffices ∀ D : Pairs, (l.foldl (pairStep id) D).length ≤ D.length + l.length from by unfold pairsL; simpa using this []
  induction l with
  | nil => intro D; simp
  | cons e l ih =>
    intro D
    have h := ih (pairStep id D e)
    have : (pairStep id D e).length ≤ D.length + 1 := by unfold pairStep; split <;> simp
    simp only [List.foldl_cons, List.length_cons]; omega
def keyT (e : MapEntry) : Bytes := match e.key with | .string s => s.data.toList | _ => []
theorem CntP.entry {D : Pairs} {cs : Array MapEntry} {cc : Nat} (h : CntP D cs cc) {e : MapEntry} (he : e ∈ cs.toList) : e.key = .string (tx (keyT e)) ∧ e.val = .int .i64 (cnt D (keyT e)) ∧ cnt D (keyT e) ≠ 0 := by
  obtain ⟨s, hs⟩ := h.1 e he
  have hk : keyT e = s.data.toList := by unfold keyT; rw [hs]
  have hts : tx (keyT e) = s := by rw [hk]
  have hq := qget_of h.2.1 (k := .txt (tx (keyT e))) he (by rw [hs, hts]; rfl)
  rw [h.2.2.2] at hq
  by_cases hz : cnt D (keyT e) = 0
  · rw [if_pos hz] at hq; cases hq
  · rw [if_neg hz] at hq
    exact ⟨by rw [hs, hts], (Option.some.inj hq).symm, hz⟩
theorem CntP.mem {D : Pairs} {cs : Array MapEntry} {cc : Nat} (h : CntP D cs cc) {t : Bytes} (ht : cnt D t ≠ 0) : ∃ e ∈ cs.toList, keyT e = t := by
  have hq := h.2.2.2 t
  rw [if_neg ht] at hq
  obtain ⟨e, he, hk, _⟩ := qget_mem hq
  exact ⟨e, he, by unfold keyT; rw [hk]; rfl⟩
theorem cnt_pos {D : Pairs} {t : Bytes} : cnt D t ≠ 0 ↔ t ∈ D.map (·.1) := by
  unfold cnt
  rw [List.mem_map]
  constructor
  · intro h
    obtain ⟨p, hp⟩ := List.exists_mem_of_length_pos (Nat.pos_of_ne_zero h)
    rw [List.mem_filter] at hp
    exact ⟨p, hp.1, by simpa using hp.2⟩
  · rintro ⟨p, hp, rfl⟩ hz
    have : p ∈ D.filter fun q => q.1 == p.1 := List.mem_filter.2 ⟨hp, by simp⟩
    rw [List.eq_nil_of_length_eq_zero hz] at this; cases this
/-- Texts in order, each once. -/
def insT (t : Bytes) : List Bytes → List Bytes
  | [] => [t]
  | x :: xs => if Op.bytesLess t x = true then t :: x :: xs else if t = x then x :: xs else x :: insT t xs
def textsL (D : Pairs) : List Bytes := D.foldl (fun acc p => insT p.1 acc) []
def LtB (x y : Bytes) : Prop := Op.bytesLess x y = true
theorem insT_spec (t : Bytes) : ∀ (X : List Bytes), X.Pairwise LtB → (insT t X).Pairwise LtB ∧ ∀ z, z ∈ insT t X ↔ z ∈ X ∨ z = t
  | [], _ => ⟨List.pairwise_singleton _ _, fun z => by simp [insT]⟩
  | x :: X, h => by
    have hx := List.pairwise_cons.1 h
    unfold insT
    by_cases h1 : Op.bytesLess t x = true
    · rw [if_pos h1]
      refine ⟨List.pairwise_cons.2 ⟨fun z hz => ?_, h⟩, fun z => by rw [List.mem_cons, or_comm]⟩
      rcases List.mem_cons.1 hz with rfl | hz
      · exact h1
      · exact bl_trans _ _ _ h1 (hx.1 z hz)
    · rw [if_neg h1]
      by_cases h2 : t = x
      · rw [if_pos h2]
        exact ⟨h, fun z => ⟨.inl, fun hz => hz.elim id fun hz => by rw [hz, h2]; exact List.mem_cons_self ..⟩⟩
      · rw [if_neg h2]
        obtain ⟨g1, g2⟩ := insT_spec t X hx.2
        have hxt : LtB x t := by
          cases hb : Op.bytesLess x t with
          | true => exact hb
          | false => exact absurd (bl_total _ _ (by simpa using h1) hb) h2
        refine ⟨List.pairwise_cons.2 ⟨fun z hz => ?_, g1⟩, fun z => by rw [List.mem_cons, g2 z, List.mem_cons, or_assoc]⟩
        rcases (g2 z).1 hz with hz | rfl
        · exact hx.1 z hz
        · exact hxt
theorem textsL_spec (D : Pairs) : (textsL D).Pairwise LtB ∧ ∀ z, z ∈ textsL D ↔ z ∈ D.map (·.1) := by
  unfold textsL
  suffices ∀ (D : Pairs) (X : List Bytes), X.Pairwise LtB → (D.foldl (fun acc p => insT p.1 acc) X).Pairwise LtB ∧ ∀ z, z ∈ D.foldl (fun acc p => insT p.1 acc) X ↔ z ∈ X ∨ z ∈ D.map (·.1) from by
    have := this D [] .nil
    exact ⟨this.1, fun z => (this.2 z).trans (by simp)⟩
  intro D
  induction D with
  | nil => intro X h; exact ⟨h, fun z => by simp⟩
  | cons p D ih =>
    intro X h
    obtain ⟨g1, g2⟩ := insT_spec p.1 X h
    obtain ⟨k1, k2⟩ := ih _ g1
    exact ⟨k1, fun z => by rw [List.foldl_cons, k2 z, g2 z, List.map_cons, List.mem_cons, or_assoc]⟩
theorem ltb_unique {A B : List Bytes} (ha : A.Pairwise LtB) (hb : B.Pairwise LtB) (h : ∀ z, z ∈ A ↔ z ∈ B) : A = B := by
  have irr : ∀ x, ¬ LtB x x := fun x hx => by unfold LtB at hx; rw [bl_irrefl] at hx; cases hx
  have na : A.Nodup := ha.imp fun {x y} (hxy : LtB x y) (he : x = y) => irr y (he ▸ hxy)
  have nb : B.Nodup := hb.imp fun {x y} (hxy : LtB x y) (he : x = y) => irr y (he ▸ hxy)
  exact List.Perm.eq_of_pairwise (le := LtB) (fun a b _ _ h1 h2 => (irr a (bl_trans _ _ _ h1 h2)).elim) ha hb ((List.perm_ext_iff_of_nodup na nb).2 h)
theorem cmpB_swo : SWO (ltOf cmpB) where
  irrefl x := by rw [cmpB_lt]; exact bl_irrefl x
  trans x y z h1 h2 := by rw [cmpB_lt] at *; exact bl_trans _ _ _ h1 h2
  ntrans x y z h1 h2 := by
    rw [cmpB_lt] at *
    cases h : Op.bytesLess x z with
    | false => rfl
    | true =>
      cases h3 : Op.bytesLess y x with
      | true => have := bl_trans _ _ _ h3 h; rw [h2] at this; cases this
      | false => have := bl_total _ _ h1 h3; subst this; rw [h2] at h; cases h
theorem cmpB_tot (x y : Bytes) (h1 : ltOf cmpB x y = false) (h2 : ltOf cmpB y x = false) : x = y := by
  rw [cmpB_lt] at h1 h2; exact bl_total _ _ h1 h2
theorem sort_texts {T : List Bytes} {D : Pairs} (hn : T.Nodup) (hm : ∀ t, t ∈ T ↔ t ∈ D.map (·.1)) : (T.mergeSort fun x y => !(ltOf cmpB) y x) = textsL D := by
  have hp := List.mergeSort_perm T fun x y => !(ltOf cmpB) y x
  have hs : (T.mergeSort fun x y => !(ltOf cmpB) y x).Pairwise fun x y => (!(ltOf cmpB) y x) = true := List.pairwise_mergeSort (fun a b c h1 h2 => by
    simp only [Bool.not_eq_true'] at h1 h2 ⊢; exact cmpB_swo.ntrans c b a h2 h1) (fun a b => by
    cases h : ltOf cmpB b a with
    | false => simp
    | true =>
      cases h2 : ltOf cmpB a b with
      | false => simp
      | true => have := cmpB_swo.trans a b a h2 h; rw [cmpB_swo.irrefl] at this; cases this) T
  have hnd : (T.mergeSort fun x y => !(ltOf cmpB) y x).Nodup := hp.nodup_iff.2 hn
  refine ltb_unique ?_ (textsL_spec D).1 fun z => by rw [(textsL_spec D).2, hp.mem_iff, hm]
  refine (hs.and hnd).imp fun {x y} h => ?_
  obtain ⟨h1, h2⟩ := h
  rw [cmpB_lt] at h1
  unfold LtB
  cases hb : Op.bytesLess x y with
  | true => rfl
  | false => exact absurd (bl_total _ _ hb (by simpa using h1)) h2
def cntAV (D : Pairs) (t : Bytes) : AV := .agg [S t, I (cnt D t)]
def reactL (D : Pairs) : List AV := (textsL D).map (cntAV D)
def reactAV (D : Pairs) : AV := .lst 2 (reactL D)
theorem pure_reactAV (D : Pairs) : Pure (reactAV D) := pure_lst fun x hx c hc => by
  obtain ⟨t, _, rfl⟩ := List.mem_map.1 hx
  simp only [cntAV, cells_agg, List.mem_cons, List.not_mem_nil, or_false] at hc
  rcases hc with rfl | rfl <;> exact pure_v _
theorem texts_len (D : Pairs) {T : List Bytes} (hn : T.Nodup) (h : ∀ t ∈ T, t ∈ D.map (·.1)) : T.length ≤ D.length := by
  have := nodup_lenG hn h
  rwa [List.length_map] at this
theorem Seen.texts {D : Pairs} {cs : Array MapEntry} {cc : Nat} {done : List MapEntry} (h : Go.Abs.Seen cs done) (hC : CntP D cs cc) : (done.map keyT).Nodup := by
  have hk := h.keysQ hC.2.1
  have : done.map (·.key) = (done.map keyT).map fun t => Value.string (tx t) := by
    rw [List.map_map]
    exact List.map_congr_left fun e he => (hC.entry (h.mem e he)).1
  rw [this] at hk
  unfold List.Nodup at hk ⊢
  rw [List.pairwise_map] at hk
  exact hk.imp fun {a b} hab he => hab (by rw [he])
set_option maxRecDepth 8000 in
set_option maxHeartbeats 4000000 in
theorem reactions_ac (l : List Evt) (id : Int) (hsz : l.length ≤ 100000) : AC Try.prog 30 [evs l, I id] (reactAV (pairsL id l)) := by
  refine AC.of_body Try.func30 rfl rfl Try.ntmps30 (congrArg Array.toList Try.results30) (by simp) (pures2 (pure_evs _) (pure_I _)) (pure_reactAV _) fun w S' => AWp.of_vc [] ?_
  have hm : l.length ≤ maxLen := by unfold maxLen; omega
  simp [go_sem]
  refine AWp.loop_vc [] (fun m s => ∃ (k v u c cc : Nat) (ss cs : Array MapEntry), k ≤ l.length ∧ m = l.length - k ∧ s.σ 1 = I id ∧ s.σ 15 = evs l ∧ s.σ 16 = I l.length ∧ s.σ 17 = I k ∧ s.σ 5 = .ref 13 v ∧ s.ver 13 = v ∧ s.h 13 = .map ss c ∧ s.σ 6 = .ref 14 u ∧ s.ver 14 = u ∧ s.h 14 = .map cs cc ∧ SeenP (pairsL id (l.take k)) ss ∧ CntP (pairsL id (l.take k)) cs cc) l.length ⟨0, 1, 1, 0, 0, #[], #[], by simp [go_sem, pairsL, SeenP.zero, CntP.zero]⟩ ?_
  rintro m s ⟨k, v, u, c, cc, ss, cs, hk, rfl, h1, h15, h16, h17, h5, hv5, hh5, h6, hv6, hh6, hS, hC⟩
  by_cases hlt : k < l.length
  · have hsu := pairs_succ id hlt
    have hpl := pairs_len id (l.take k)
    rw [List.length_take] at hpl
    generalize pairsL id (l.take k) = D at hS hC hsu hpl
    have hcl := cnt_le D l[k].content.text
    simp [go_sem, h1, h15, h16, h17, h5, hv5, hh5, h6, hv6, hh6, hlt]
    refine CallSem.pure (rel_ac l[k]) (by simp [go_sem]) ?_
    have q1 : qM ss (.two ⟨l[k].content.text.toArray⟩ ⟨l[k].sender.toArray⟩) = true := twM_qM hS.1 _ _
    have q2 : qM cs (.txt ⟨l[k].content.text.toArray⟩) = true := txM_qM hC.1 _
    have q3 : qget ss (.two ⟨l[k].content.text.toArray⟩ ⟨l[k].sender.toArray⟩) = if pairE l[k] ∈ D then some (.bool true) else none := hS.2 l[k].content.text l[k].sender
    have q4 : qget cs (.txt ⟨l[k].content.text.toArray⟩) = if cnt D l[k].content.text = 0 then none else some (.int .i64 (cnt D l[k].content.text)) := hC.2.2.2 l[k].content.text
    have q5 : (qget cs (.txt ⟨l[k].content.text.toArray⟩)).getD (.int .i64 0) = .int .i64 (cnt D l[k].content.text) := by
      rw [q4]; by_cases hz : cnt D l[k].content.text = 0
      · rw [if_pos hz, hz]; rfl
      · rw [if_neg hz]; rfl
    have hwc : IntKind.i64.wrap ((cnt D l[k].content.text : Int) + 1) = (cnt D l[k].content.text : Int) + 1 := wrap_i64 (by omega) (by omega)
    by_cases hr : (relE l[k]).1 = 4 ∧ (relE l[k]).2 = id
    · by_cases hin : pairE l[k] ∈ D
      · have hst : pairStep id D l[k] = D := by unfold pairStep; rw [if_neg (fun h => h.2 hin)]
        rw [if_pos hin] at q3
        simp [go_sem, h1, h15, h16, h17, h5, hv5, hh5, h6, hv6, hh6, hlt, hr, q1, q2, q3, q5, hwc, wrap_succ hlt hm]
        exact ⟨l.length - (k + 1), by omega, k + 1, by omega, rfl, rfl, _, _, _, _, ⟨rfl, rfl⟩, rfl, _, ⟨rfl, rfl⟩, by rw [hsu, hst]; exact hS, by rw [hsu, hst]; exact hC⟩
      · have hst : pairStep id D l[k] = D ++ [pairE l[k]] := by unfold pairStep; rw [if_pos ⟨by unfold isReact; simpa using hr, hin⟩]
        rw [if_neg hin] at q3
        simp [go_sem, h1, h15, h16, h17, h5, hv5, hh5, h6, hv6, hh6, hlt, hr, q1, q2, q3, q5, hwc, wrap_succ hlt hm]
        exact ⟨l.length - (k + 1), by omega, k + 1, by omega, rfl, rfl, _, _, _, _, ⟨rfl, rfl⟩, rfl, _, ⟨rfl, rfl⟩, by rw [hsu, hst]; exact hS.add c _ _, by rw [hsu, hst]; exact hC.add (pairE l[k])⟩
    · have hst : pairStep id D l[k] = D := by unfold pairStep; rw [if_neg (fun h => hr (by have := h.1; unfold isReact at this; simpa using this))]
      simp [go_sem, h1, h15, h16, h17, h5, hv5, hh5, h6, hv6, hh6, hlt, hr, wrap_succ hlt hm]
      exact ⟨l.length - (k + 1), by omega, k + 1, by omega, rfl, rfl, _, _, _, _, ⟨rfl, rfl⟩, rfl, _, ⟨rfl, rfl⟩, by rw [hsu, hst]; exact hS, by rw [hsu, hst]; exact hC⟩
  · obtain rfl : k = l.length := by omega
    simp [go_sem, h1, h15, h16, h17, h5, hv5, hh5, h6, hv6, hh6]
    rw [List.take_of_length_le (Nat.le_refl _)] at hS hC
    have hpl := pairs_len id l
    generalize pairsL id l = D at hS hC hpl ⊢
    refine ⟨hC.2.2.1, ?_⟩
    refine AWp.ownNil 10 58 2 (by simp [go_sem]) ?_
    refine AWp.loop_vc [] (fun m s => ∃ (done : List MapEntry) (v u : Nat), m = cs.size - done.length ∧ Go.Abs.Seen cs done ∧ s.σ 10 = .ref 10 v ∧ s.ver 10 = v ∧ s.h 10 = .arr 58 2 ((done.map keyT).map (cntAV D)) ∧ s.σ 47 = .rptr 47 u 0 0 ∧ s.ver 47 = u ∧ s.h 47 = .iter cs cc done) cs.size ⟨[], _, _, by simp [go_sem, Seen.nil]; exact ⟨rfl, rfl⟩⟩ ?_
    clear h1 h15 h16 h17 h5 hv5 hh5 h6 hv6 hh6
    rintro m s ⟨done, v, u, rfl, hS', h10, hv, hh, h47, hu, hi⟩
    have hdl := hS'.len
    have htn := Seen.texts hS' hC
    have htl : (done.map keyT).length ≤ D.length := texts_len D htn fun t ht => by
      obtain ⟨e, he, rfl⟩ := List.mem_map.1 ht
      exact cnt_pos.1 (hC.entry (hS'.mem e he)).2.2
    simp [go_sem, h10, hv, hh, h47, hu, hi]
    refine NextK.mk (fun hall => ?_) fun e he hnew => ?_
    · have hm : ∀ t, t ∈ done.map keyT ↔ t ∈ D.map (·.1) := fun t => by
        rw [List.mem_map]
        constructor
        · rintro ⟨e, he, rfl⟩
          exact cnt_pos.1 (hC.entry (hS'.mem e he)).2.2
        · intro ht
          obtain ⟨e, he, hk⟩ := hC.mem (cnt_pos.2 ht)
          exact ⟨e, (hS'.all hC.2.2.1 hall e).2 he, hk⟩
      have hsrt := sort_texts htn hm
      unfold reactAV reactL
      rw [← hsrt]
      generalize done.map keyT = T at hh htl ⊢
      have hrow : T.map (cntAV D) = aggs (ctc36 fun t => (cnt D t : Int)) T := rfl
      rw [hrow] at hh
      simp [go_sem, h10, hv, hh, h47, hu, hi]
      refine CallSem.sortK (ρ := Try.sortF42_ren) (id := 10) (e := 58) (k := 2) (l := T) Try.sortF42 ⟨_, Try.func42, rfl, rfl⟩
        Try.isAgg58 Try.sizeOf58 (ctc36 fun t => (cnt D t : Int)) (by decide) (fun x => rfl) (fun x v hv => by simp only [ctc36, List.mem_cons, List.not_mem_nil, or_false] at hv; rcases hv with rfl | rfl <;> rfl) cmpB cmpB_swo cmpB_tot (enters_of Try.func43 (by kernel_rfl) rfl) (closure36_calls fun t => (cnt D t : Int)) (by simp [go_sem, hv]) (by simp [go_sem, hh]; try rfl) (by simp [go_sem]) (by omega) ?_
      have hrow2 : aggs (ctc36 fun t => (cnt D t : Int)) (T.mergeSort fun x y => !(ltOf cmpB) y x) = (T.mergeSort fun x y => !(ltOf cmpB) y x).map (cntAV D) := rfl
      rw [hrow2]
      generalize (T.mergeSort fun x y => !(ltOf cmpB) y x).map (cntAV D) = R
      simp [go_sem, h10, hv]
      refine PostR.retW [10] ?_ (.refl _)
      simp [go_sem, h10, hv]
    · obtain ⟨hek, hev, hne⟩ := hC.entry he
      have hS2 := hS'.snoc he hnew
      have hdl2 := hS2.len
      rw [List.length_append, List.length_cons, List.length_nil] at hdl2
      rw [List.length_map] at htl
      have hsn : ((done ++ [e]).map keyT).map (cntAV D) = (done.map keyT).map (cntAV D) ++ [cntAV D (keyT e)] := by rw [List.map_append, List.map_append]; rfl
      have hrl : ((done.map keyT).map (cntAV D)).length = done.length := by rw [List.length_map, List.length_map]
      generalize (done.map keyT).map (cntAV D) = R at hh hsn hrl
      simp [go_sem, h10, hv, hh, h47, hu, hi, hek, hev]
      exact ⟨⟨by omega, by omega⟩, cs.size - (done ++ [e]).length, by rw [List.length_append, List.length_cons, List.length_nil]; omega, done ++ [e], rfl, hS2, by rw [← List.map_map, hsn]; rfl, rfl⟩

end Go.Proofs.Ytckoolpjphhfdaa
