/- Several texts of the proof in one: G1, G2, G3, G4, G5, G6, A0. No condition. -/
import Derived.Test.YtabjpmleboeimaaKd
import Derived.Test.YtabjpmleboeimaaKe
set_option linter.unusedSimpArgs false
set_option linter.unusedVariables false
-- part G1
namespace Go.Proofs.Ytabjpmleboeimaa
open Go Go.Abs
set_option linter.unusedSimpArgs false
/-- The map of the first places of the ids, from a place on. -/
def idxFrom : List Evt → Nat → Array MapEntry × Nat
  | [], _ => (#[], 0)
  | e :: l, i => mput (idxFrom l (i + 1)).1 (idxFrom l (i + 1)).2 e.id (.int .i64 i)
theorem idxFrom_int : ∀ (l : List Evt) (i : Nat), intM (idxFrom l i).1 = true
  | [], _ => rfl
  | e :: l, i => q_mput_int _ _ _ _ (idxFrom_int l (i + 1))
theorem idxFrom_get (n : Int) : ∀ (l : List Evt) (i : Nat), mget (idxFrom l i).1 n = (l.findIdx? fun e => e.id == n).map fun k => .int .i64 ((i + k : Nat) : Int)
  | [], _ => rfl
  | e :: l, i => by
    show mget (mput _ _ _ _).1 n = _
    rw [q_mput_get, List.findIdx?_cons, idxFrom_get n l (i + 1)]
    by_cases h : e.id = n
    · simp [h]
    · simp [h, Function.comp_def, Nat.add_comm, Nat.add_left_comm]
def idxM (l : List Evt) : Array MapEntry := (idxFrom l 0).1
def idxC (l : List Evt) : Nat := (idxFrom l 0).2
def idxAV (l : List Evt) : AV := .mapv (idxM l) (idxC l)
theorem idxM_int (l : List Evt) : intM (idxM l) = true := idxFrom_int l 0
theorem pure_idx (l : List Evt) : Pure (idxAV l) := pure_mapv _ _
theorem idx_get (l : List Evt) (n : Int) : (getE l n = none ∧ mget (idxM l) n = none) ∨ ∃ k, ∃ hk : k < l.length, getE l n = some l[k] ∧ mget (idxM l) n = some (.int .i64 k) := by
  have h := idxFrom_get n l 0
  unfold idxM getE
  rw [h]
  cases hf : l.findIdx? fun e => e.id == n with
  | none =>
    left
    rw [List.findIdx?_eq_none_iff] at hf
    refine ⟨?_, rfl⟩
    rw [List.find?_eq_none]
    intro e he; simpa using hf e he
  | some k =>
    right
    rw [List.findIdx?_eq_some_iff_getElem] at hf
    obtain ⟨hk, h1, h2⟩ := hf
    refine ⟨k, hk, ?_, by simp⟩
    rw [List.find?_eq_some_iff_getElem]
    exact ⟨h1, k, hk, rfl, fun j hj => by simpa using h2 j hj⟩
theorem idx_some (l : List Evt) (n : Int) : (mget (idxM l) n).isSome = (getE l n).isSome := by
  rcases idx_get l n with ⟨h1, h2⟩ | ⟨k, hk, h1, h2⟩ <;> rw [h1, h2] <;> rfl
attribute [go_sem] idxAV idxM_int
set_option maxRecDepth 8000 in
set_option maxHeartbeats 4000000 in
theorem index_ac (l : List Evt) : AC Try.prog 57 [evs l] (idxAV l) := by
  refine AC.of_body Try.func57 rfl rfl Try.ntmps57 (congrArg Array.toList Try.results57) (by simp) (pures1 (pure_evs _)) (pure_idx _) fun w S' => AWp.bound 0 rfl fun hlen => AWp.of_vc [] ?_
  rw [evs_len] at hlen
  simp [go_sem]
  refine AWp.loop_vc [] (fun m s => ∃ q v : Nat, q ≤ l.length ∧ m = q ∧ s.σ 0 = evs l ∧ s.σ 4 = I ((q : Int) - 1) ∧ s.σ 3 = .ref 7 v ∧ s.ver 7 = v ∧ s.h 7 = .map (idxFrom (l.drop q) q).1 (idxFrom (l.drop q) q).2) l.length ⟨l.length, 1, by simp [go_sem, wrap_pred hlen, idxFrom]⟩ ?_
  rintro m s ⟨q, v, hq, hmq, h0, h4, h3, hv, hh⟩
  cases q with
  | zero =>
    have h4' : s.σ 4 = I (-1) := by rw [h4]; rfl
    simp [go_sem, h0, h4', h3, hv, hh]
    refine PostR.retW [7] ?_ (.refl _)
    simp [go_sem, h3, hv, hh, idxAV, idxM, idxC]
  | succ q =>
    have h4' : s.σ 4 = I (q : Int) := by rw [h4]; congr 2; omega
    have hd : idxFrom (l.drop q) q = mput (idxFrom (l.drop (q + 1)) (q + 1)).1 (idxFrom (l.drop (q + 1)) (q + 1)).2 l[q].id (.int .i64 q) := by
      rw [List.drop_eq_getElem_cons (by omega : q < l.length)]; rfl
    have hi := idxFrom_int (l.drop (q + 1)) (q + 1)
    have hlt : q < l.length := by omega
    have hw : IntKind.i64.wrap ((q : Int) - 1) = (q : Int) - 1 := wrap_pred (by omega)
    simp [go_sem, h0, h4', h3, hv, hh, hi, hlt, hw]
    exact ⟨q, by omega, q, by omega, rfl, rfl, by rw [hd]; exact ⟨rfl, rfl⟩⟩
def knownB (l : List Evt) (n : Int) : Bool := (getE l n).isSome
def allKnown (l : List Evt) (r : List Int) : Bool := r.all (knownB l)
def closedOf (l : List Evt) : Bool := l.all fun e => allKnown l e.prev && allKnown l e.auth
theorem all_take {α : Type} {p : α → Bool} {l : List α} {k : Nat} (h : k < l.length) : (l.take (k + 1)).all p = ((l.take k).all p && p l[k]) := by
  rw [List.take_succ_eq_append_getElem h, List.all_append]; simp
theorem all_miss {α : Type} {p : α → Bool} {l : List α} {k : Nat} (h : k < l.length) (hp : p l[k] = false) : l.all p = false := List.all_eq_false.2 ⟨l[k], List.getElem_mem h, by simp [hp]⟩
/-- Are the elements ahead of a place all so? -/
def AllUp {α : Type} (p : α → Bool) (l : List α) (k : Nat) : Prop := (l.take k).all p = true
theorem AllUp.zero {α : Type} (p : α → Bool) (l : List α) : AllUp p l 0 := rfl
theorem AllUp.succ {α : Type} {p : α → Bool} {l : List α} {k : Nat} (h : k < l.length) (h1 : AllUp p l k) (hp : p l[k] = true) : AllUp p l (k + 1) := by
  unfold AllUp at *; rw [all_take h, h1, hp]; rfl
theorem AllUp.full {α : Type} {p : α → Bool} {l : List α} {k : Nat} (h : ¬ k < l.length) (h1 : AllUp p l k) : l.all p = true := by
  unfold AllUp at *; rw [List.take_of_length_le (by omega)] at h1; exact h1
theorem pure_idxP (l : List Evt) : Pure (.eptr [idxAV l] 0) := pure_eptr fun c h => by simp only [List.mem_singleton] at h; subst h; exact pure_idx _
end Go.Proofs.Ytabjpmleboeimaa

-- part G2
namespace Go.Proofs.Ytabjpmleboeimaa
open Go Go.Abs
set_option linter.unusedSimpArgs false
def refsOf (b : Bool) (e : Evt) : List Int := if b = true then e.auth else e.prev
/-- What is reached from some ids by references to known events. -/
inductive Reach (l : List Evt) (b : Bool) (fr : List Int) : Int → Prop
  | start {n : Int} : n ∈ fr → knownB l n = true → Reach l b fr n
  | step {m n : Int} {e : Evt} : Reach l b fr m → getE l m = some e → n ∈ refsOf b e → knownB l n = true → Reach l b fr n
theorem Reach.known {l : List Evt} {b : Bool} {fr : List Int} {n : Int} (h : Reach l b fr n) : knownB l n = true := by cases h <;> assumption
theorem known_id {l : List Evt} {n : Int} (h : knownB l n = true) : n ∈ l.map (·.id) := by
  unfold knownB getE at h
  obtain ⟨e, he⟩ := Option.isSome_iff_exists.1 h
  exact List.mem_map.2 ⟨e, List.mem_of_find?_eq_some he, by simpa using List.find?_some he⟩
open Classical in
noncomputable def reachOf (l : List Evt) (b : Bool) (fr : List Int) : List Int := sortedL ((l.map (·.id)).filter fun n => decide (Reach l b fr n))
theorem reachOf_sorted (l : List Evt) (b : Bool) (fr : List Int) : (reachOf l b fr).Pairwise (· < ·) := (sortedL_sorted _).1
theorem mem_reachOf {l : List Evt} {b : Bool} {fr : List Int} {n : Int} : n ∈ reachOf l b fr ↔ Reach l b fr n := by
  unfold reachOf
  rw [(sortedL_sorted _).2, List.mem_filter]
  exact ⟨fun h => by simpa using h.2, fun h => ⟨known_id h.known, by simpa using h⟩⟩
theorem nodup_len : ∀ {a b : List Int}, a.Nodup → (∀ x ∈ a, x ∈ b) → a.length ≤ b.length
  | [], b, _, _ => Nat.zero_le _
  | x :: a, b, h, hs => by
    rw [List.nodup_cons] at h
    have hx := hs x (List.mem_cons_self ..)
    have ih := nodup_len (a := a) (b := b.erase x) h.2 fun y hy => (List.mem_erase_of_ne fun he => h.1 (by rw [← he]; exact hy)).2 (hs y (List.mem_cons_of_mem _ hy))
    rw [List.length_erase_of_mem hx] at ih
    have : 0 < b.length := List.length_pos_of_mem hx
    simp only [List.length_cons]; omega
theorem reachOf_len (l : List Evt) (b : Bool) (fr : List Int) : (reachOf l b fr).length ≤ l.length := by
  have := nodup_len (a := reachOf l b fr) (b := l.map (·.id)) ((reachOf_sorted l b fr).imp fun h => Int.ne_of_lt h) fun x hx => known_id (mem_reachOf.1 hx).known
  simpa using this

structure RInv (l : List Evt) (b : Bool) (fr next : List Int) (k : Nat) (out t : List Int) (o0 : Nat) : Prop where
  nd : out.Nodup
  mem : ∀ n ∈ out, Reach l b fr n
  more : ∀ n ∈ t, knownB l n = true → Reach l b fr n
  nextR : ∀ n ∈ next, knownB l n = true → Reach l b fr n
  start : ∀ n ∈ fr, knownB l n = true → n ∈ out ∨ n ∈ next.drop k
  closed : ∀ m ∈ out, ∀ e, getE l m = some e → ∀ n ∈ refsOf b e, knownB l n = true → n ∈ out ∨ n ∈ next.drop k ∨ n ∈ t
  grew : t ≠ [] → o0 < out.length
  mono : o0 ≤ out.length
  short : t.length ≤ 40 * out.length
section
variable {l : List Evt} {b : Bool} {fr next out t : List Int} {k o0 : Nat}
theorem RInv.first : RInv l b fr fr 0 [] [] 0 :=
  ⟨List.nodup_nil, (fun _ h => (by cases h)), (fun _ h => (by cases h)), (fun _ h hk => .start h hk), (fun _ h _ => .inr h), (fun _ h => (by cases h)), (fun h => absurd rfl h), Nat.le_refl _, Nat.le_refl _⟩
theorem RInv.len (h : RInv l b fr next k out t o0) : out.length ≤ l.length := by
  have := nodup_len (b := l.map (·.id)) h.nd fun x hx => known_id (h.mem x hx).known
  simpa using this
theorem RInv.skip (h : RInv l b fr next k out t o0) (hk : k < next.length) (hno : knownB l next[k] = true → next[k] ∈ out) : RInv l b fr next (k + 1) out t o0 := by
  have hd : next.drop k = next[k] :: next.drop (k + 1) := List.drop_eq_getElem_cons hk
  refine ⟨h.nd, h.mem, h.more, h.nextR, fun n hn hkn => ?_, fun m hm e he n hn hkn => ?_, h.grew, h.mono, h.short⟩
  · rcases h.start n hn hkn with g | g
    · exact .inl g
    · rw [hd] at g
      rcases List.mem_cons.1 g with rfl | g
      · exact .inl (hno hkn)
      · exact .inr g
  · rcases h.closed m hm e he n hn hkn with g | g | g
    · exact .inl g
    · rw [hd] at g
      rcases List.mem_cons.1 g with rfl | g
      · exact .inl (hno hkn)
      · exact .inr (.inl g)
    · exact .inr (.inr g)
theorem RInv.add (h : RInv l b fr next k out t o0) (hk : k < next.length) {e : Evt} (hg : getE l next[k] = some e) (hn : next[k] ∉ out) (h40 : (refsOf b e).length ≤ 40) : RInv l b fr next (k + 1) (out ++ [next[k]]) (t ++ refsOf b e) o0 := by
  have hd : next.drop k = next[k] :: next.drop (k + 1) := List.drop_eq_getElem_cons hk
  have hkn : knownB l next[k] = true := by unfold knownB; rw [hg]; rfl
  have hR := h.nextR _ (List.getElem_mem hk) hkn
  refine ⟨?_, ?_, ?_, h.nextR, ?_, ?_, ?_, ?_, ?_⟩
  · rw [List.nodup_append]
    refine ⟨h.nd, by simp, fun a ha c hc => ?_⟩
    simp only [List.mem_singleton] at hc
    subst hc; exact fun he => hn (he ▸ ha)
  · intro n hm
    rcases List.mem_append.1 hm with hm | hm
    · exact h.mem n hm
    · simp only [List.mem_singleton] at hm; subst hm; exact hR
  · intro n hm hkn2
    rcases List.mem_append.1 hm with hm | hm
    · exact h.more n hm hkn2
    · exact .step hR hg hm hkn2
  · intro n hm hkn2
    rcases h.start n hm hkn2 with g | g
    · exact .inl (List.mem_append_left _ g)
    · rw [hd] at g
      rcases List.mem_cons.1 g with rfl | g
      · exact .inl (by simp)
      · exact .inr g
  · intro m hm e2 he2 n hn2 hkn2
    rcases List.mem_append.1 hm with hm | hm
    · rcases h.closed m hm e2 he2 n hn2 hkn2 with g | g | g
      · exact .inl (List.mem_append_left _ g)
      · rw [hd] at g
        rcases List.mem_cons.1 g with rfl | g
        · exact .inl (by simp)
        · exact .inr (.inl g)
      · exact .inr (.inr (List.mem_append_left _ g))
    · simp only [List.mem_singleton] at hm; subst hm
      rw [hg] at he2; cases he2
      exact .inr (.inr (List.mem_append_right _ hn2))
  · intro _; have := h.mono; simp only [List.length_append, List.length_cons, List.length_nil]; omega
  · have := h.mono; simp only [List.length_append]; omega
  · have := h.short; simp only [List.length_append, List.length_cons, List.length_nil]; omega
theorem RInv.turn (h : RInv l b fr next k out t o0) (hk : ¬ k < next.length) : RInv l b fr t 0 out [] out.length := by
  have hd : next.drop k = [] := List.drop_eq_nil_of_le (by omega)
  refine ⟨h.nd, h.mem, fun _ h => (by cases h), h.more, fun n hn hkn => ?_, fun m hm e he n hn hkn => ?_, fun h => absurd rfl h, Nat.le_refl _, Nat.zero_le _⟩
  · rcases h.start n hn hkn with g | g
    · exact .inl g
    · rw [hd] at g; cases g
  · rcases h.closed m hm e he n hn hkn with g | g | g
    · exact .inl g
    · rw [hd] at g; cases g
    · exact .inr (.inl g)
theorem RInv.mem_iff (h : RInv l b fr [] 0 out [] o0) (n : Int) : n ∈ out ↔ Reach l b fr n := by
  refine ⟨h.mem n, fun hr => ?_⟩
  induction hr with
  | start hn hkn => exact (h.start _ hn hkn).elim id fun g => by cases g
  | step _ hg hn hkn ih =>
    rcases h.closed _ ih _ hg _ hn hkn with g | g | g
    · exact g
    · cases g
    · cases g
theorem RInv.result (h : RInv l b fr [] 0 out [] o0) : sortedSet out = reachOf l b fr :=
  strict_ext (sortedSet_sorted out).1 (reachOf_sorted l b fr) fun x => by rw [(sortedSet_sorted out).2, h.mem_iff, mem_reachOf]
def rmeas (l : List Evt) (out next : List Int) : Nat := 2 * (l.length - out.length) + (if next = [] then 0 else 1)
theorem RInv.less {out0 : List Int} (h : RInv l b fr next k out t out0.length) (hne : next ≠ []) : rmeas l out t < rmeas l out0 next := by
  have h1 := h.mono
  have h2 := h.len
  unfold rmeas
  rw [if_neg hne]
  by_cases g : t = []
  · rw [if_pos g]; omega
  · have := h.grew g; rw [if_neg g]; omega
end
/-- The map of what was found. -/
def FoundM (es : Array MapEntry) (out : List Int) : Prop := intM es = true ∧ ∀ n, mget es n = if n ∈ out then some (.bool true) else none
def LevelM (es : Array MapEntry) (out : List Int) : Prop := intM es = true ∧ ∀ n, n ∉ out → mget es n = none
theorem FoundM.nil : FoundM #[] [] := ⟨rfl, fun n => rfl⟩
theorem LevelM.nil (out : List Int) : LevelM #[] out := ⟨rfl, fun n _ => rfl⟩
theorem FoundM.add {es : Array MapEntry} {out : List Int} (h : FoundM es out) (clk : Nat) (n : Int) : FoundM (mput es clk n (.bool true)).1 (out ++ [n]) := by
  refine ⟨q_mput_int _ _ _ _ h.1, fun m => ?_⟩
  rw [q_mput_get, h.2]
  by_cases g : n = m
  · subst g; simp
  · have : ¬ m = n := fun h => g h.symm
    rw [if_neg g]
    simp only [List.mem_append, List.mem_singleton, this, or_false]
theorem LevelM.add {es : Array MapEntry} {out : List Int} (h : LevelM es out) (clk : Nat) (n : Int) (v : Value) : LevelM (mput es clk n v).1 (out ++ [n]) := by
  refine ⟨q_mput_int _ _ _ _ h.1, fun m hm => ?_⟩
  simp only [List.mem_append, List.mem_singleton, not_or] at hm
  rw [q_mput_get, if_neg (fun g => hm.2 g.symm), h.2 m hm.1]
set_option maxRecDepth 8000 in
set_option maxHeartbeats 4000000 in
theorem reach_ac (l : List Evt) (fr : List Int) (f : FuncId) (b : Bool) (hf : ∀ e, AC Try.prog f [ev e] (ints (refsOf b e))) (hl : l.length ≤ 1000) (hfr : fr.length ≤ 1000000000) (h40 : ∀ e ∈ l, (refsOf b e).length ≤ 40) : AC Try.prog 58 [evs l, ints fr, .fn (.func f) [] []] (ints (reachOf l b fr)) := by
  refine AC.of_body Try.func58 rfl rfl Try.ntmps58 (congrArg Array.toList Try.results58) (by simp) (pures3 (pure_evs _) (pure_ints _) (pure_fn (fun _ h => by cases h) (fun _ h => by cases h))) (pureR_ints _) fun w S' => AWp.bound 1 rfl fun hlen => AWp.of_vc [] ?_
  rw [ints_len] at hlen
  simp [go_sem]
  refine CallSem.pure (index_ac l) (by simp [go_sem]) ?_
  simp [go_sem]
  refine AWp.ownNil 10 3 1 (by simp [go_sem]) ?_
  refine AWp.loop_vcF [] [12] (fun m s => ∃ (out next : List Int) (v : Nat) (fs : Array MapEntry) (fc : Nat) (ls : Array MapEntry) (lc : Nat), m = rmeas l out next ∧ s.σ 0 = evs l ∧ s.σ 2 = .fn (.func f) [] [] ∧ s.σ 7 = idxAV l ∧ s.σ 8 = .ref 19 1 ∧ s.σ 9 = .ref 20 1 ∧ s.σ 11 = ints next ∧ s.σ 10 = .ref 10 v ∧
    s.ver 10 = v ∧ s.ver 19 = 1 ∧ s.ver 20 = 1 ∧ s.h 10 = .arr 3 1 (out.map I) ∧ s.h 19 = .map fs fc ∧ s.h 20 = .map ls lc ∧ FoundM fs out ∧ LevelM ls out ∧ next.length ≤ 1000000000 ∧ RInv l b fr next 0 out [] out.length) (rmeas l [] fr) ⟨[], fr, 1, #[], 0, #[], 0, by simp [go_sem, FoundM.nil, LevelM.nil, RInv.first, hfr]⟩ ?_
  rintro m s ⟨out, next, v, fs, fc, ls, lc, hm, h0, h2, h7, h8, h9, h11, h10, hv, hv19, hv20, hh, hh19, hh20, hF, hL, hnx, hR⟩
  by_cases hn : next = []
  · subst hn
    have hol := hR.len
    simp [go_sem, h0, h2, h7, h8, h9, h11, h10, hv, hv19, hv20, hh, hh19, hh20]
    refine CallSem.freeze 10 ?_
    simp [go_sem, h0, h2, h7, h8, h9, h11, h10, hv, hv19, hv20, hh, hh19, hh20]
    refine CallSem.pure (numSorted_ac out (by omega)) (by simp [go_sem]) ?_
    simp [go_sem]
    refine PostR.ret ?_
    simp [go_sem, hR.result]
  · have hpos : 0 < next.length := List.length_pos_iff.2 hn
    have hnm : next.length ≤ maxLen := by unfold maxLen; omega
    simp [go_sem, h0, h2, h7, h8, h9, h11, h10, hv, hv19, hv20, hh, hh19, hh20, hpos]
    refine AWp.ownNil 12 3 1 (by simp [go_sem]) ?_
    refine AWp.loop_vc [] (fun m s => ∃ (k : Nat) (o t : List Int) (v u : Nat) (fs : Array MapEntry) (fc : Nat) (ls : Array MapEntry) (lc : Nat), m = next.length - k ∧ k ≤ next.length ∧ s.σ 0 = evs l ∧ s.σ 2 = .fn (.func f) [] [] ∧ s.σ 7 = idxAV l ∧ s.σ 8 = .ref 19 1 ∧ s.σ 9 = .ref 20 1 ∧ s.σ 10 = .ref 10 v ∧ s.σ 12 = .ref 12 u ∧ s.σ 26 = ints next ∧ s.σ 27 = I next.length ∧ s.σ 28 = I k ∧
      s.ver 10 = v ∧ s.ver 12 = u ∧ s.ver 19 = 1 ∧ s.ver 20 = 1 ∧ s.h 10 = .arr 3 1 (o.map I) ∧ s.h 12 = .arr 3 1 (t.map I) ∧ s.h 19 = .map fs fc ∧ s.h 20 = .map ls lc ∧ FoundM fs o ∧ LevelM ls o ∧ RInv l b fr next k o t out.length) next.length ⟨0, out, [], v, s.ver 12 + 1, fs, fc, #[], lc, by simp [go_sem, h0, h2, h7, h8, h9, h10, hv, hv19, hv20, hh, hh19, hF, LevelM.nil, hR]⟩ ?_
    subst hm
    clear h0 h2 h7 h8 h9 h11 h10 hv hv19 hv20 hh hh19 hh20 hF hL fs fc ls lc v hR
    rintro m s ⟨k, o, t, v, u, fs, fc, ls, lc, rfl, hk, h0, h2, h7, h8, h9, h10, h12, h26, h27, h28, hv, hu, hv19, hv20, hh, hhu, hh19, hh20, hF, hL, hR⟩
    have hol := hR.len
    have htl := hR.short
    by_cases hlt : k < next.length
    · rcases idx_get l next[k] with ⟨hg, hm⟩ | ⟨j, hj, hg, hm⟩
      · simp [go_sem, h0, h2, h7, h8, h9, h10, h12, h26, h27, h28, hv, hu, hv19, hv20, hh, hhu, hh19, hh20, hlt, hm, wrap_succ hlt hnm]
        exact ⟨next.length - (k + 1), by omega, k + 1, rfl, by omega, rfl, o, rfl, t, rfl, hF, hL, hR.skip hlt (fun h => by unfold knownB at h; rw [hg] at h; cases h)⟩
      · by_cases hin : next[k] ∈ o
        · have hf1 : mget fs next[k] = some (.bool true) := by rw [hF.2, if_pos hin]
          have hf2 := hF.1
          simp [go_sem, h0, h2, h7, h8, h9, h10, h12, h26, h27, h28, hv, hu, hv19, hv20, hh, hhu, hh19, hh20, hlt, hm, hf1, hf2, wrap_succ hlt hnm]
          exact ⟨next.length - (k + 1), by omega, k + 1, rfl, by omega, rfl, o, rfl, t, rfl, hF, hL, hR.skip hlt (fun _ => hin)⟩
        · have hf1 : mget fs next[k] = none := by rw [hF.2, if_neg hin]
          have hf2 := hF.1
          have hl1 : mget ls next[k] = none := hL.2 _ hin
          have hl2 := hL.1
          have hr40 := h40 l[j] (List.getElem_mem hj)
          have hadd := hR.add hlt hg hin hr40
          have hF' := hF.add fc next[k]
          have hL' := hL.add lc next[k] (.bool true)
          have hal := hadd.len
          have hat := hadd.short
          simp only [List.length_append, List.length_cons, List.length_nil] at hal hat
          simp [go_sem, h0, h2, h7, h8, h9, h10, h12, h26, h27, h28, hv, hu, hv19, hv20, hh, hhu, hh19, hh20, hlt, hj, hm, hf1, hf2, hl1, hl2, wrap_succ hlt hnm]
          refine ⟨by omega, ?_⟩
          refine CallSem.pure (hf l[j]) (by simp [go_sem]) ?_
          simp [go_sem, h0, h2, h7, h8, h9, h10, h12, h26, h27, h28, hv, hu, hv19, hv20, hh, hhu, hh19, hh20, hlt, hj, hm, hf1, hf2, hl1, hl2, wrap_succ hlt hnm]
          exact ⟨⟨by omega, by omega⟩, next.length - (k + 1), by omega, k + 1, rfl, by omega, rfl, o ++ [next[k]], by simp [I], t ++ refsOf b l[j], by simp, hF', hL', hadd⟩
    · have hless := hR.less hn
      have hturn := hR.turn hlt
      simp [go_sem, h0, h2, h7, h8, h9, h10, h12, h26, h27, h28, hv, hu, hv19, hv20, hh, hhu, hh19, hh20, hlt]
      exact ⟨_, hless, o, t, rfl, rfl, rfl, hF, hL, by omega, hturn⟩
/-- Few events, with few references. -/
structure Fit (l : List Evt) : Prop where
  len : l.length ≤ 14
  prev : ∀ e ∈ l, e.prev.length ≤ 40
  auth : ∀ e ∈ l, e.auth.length ≤ 40
theorem Fit.refs {l : List Evt} (h : Fit l) (b : Bool) : ∀ e ∈ l, (refsOf b e).length ≤ 40 := fun e he => by
  cases b
  · exact h.prev e he
  · exact h.auth e he
set_option maxRecDepth 8000 in
set_option maxHeartbeats 4000000 in
theorem chainC_ac (e : Evt) : AC Try.prog 59 [ev e] (ints (refsOf true e)) := by
  refine AC.of_body Try.func59 rfl rfl Try.ntmps59 (congrArg Array.toList Try.results59) (by simp) (pures1 (pure_ev _)) (pureR_ints _) fun w S' => AWp.of_vc [] ?_
  simp [go_sem]
  refine PostR.ret ?_
  simp [go_sem, refsOf]
def firstOf (l : List Evt) (ids : List Int) : List Int := ids.flatMap fun n => ((getE l n).map (·.auth)).getD []
theorem firstOf_succ {l : List Evt} {ids : List Int} {k : Nat} (h : k < ids.length) : firstOf l (ids.take (k + 1)) = firstOf l (ids.take k) ++ ((getE l ids[k]).map (·.auth)).getD [] := by
  unfold firstOf
  rw [List.take_succ_eq_append_getElem h, List.flatMap_append]; simp
theorem firstOf_len {l : List Evt} (hl : Fit l) : ∀ ids : List Int, (firstOf l ids).length ≤ 40 * ids.length
  | [] => Nat.le_refl _
  | n :: ids => by
    have ih := firstOf_len hl ids
    have : firstOf l (n :: ids) = ((getE l n).map (·.auth)).getD [] ++ firstOf l ids := by simp [firstOf]
    rw [this, List.length_append, List.length_cons]
    have : (((getE l n).map (·.auth)).getD []).length ≤ 40 := by
      cases hg : getE l n with
      | none => simp
      | some e => exact hl.auth e (List.mem_of_find?_eq_some hg)
    omega
noncomputable def chainOf (l : List Evt) (ids : List Int) : List Int := reachOf l true (firstOf l ids)
set_option maxRecDepth 8000 in
set_option maxHeartbeats 4000000 in
theorem chain_ac (l : List Evt) (ids : List Int) (hl : Fit l) (hi : ids.length ≤ 1000000) : AC Try.prog 38 [evs l, ints ids] (ints (chainOf l ids)) := by
  refine AC.of_body Try.func38 rfl rfl Try.ntmps38 (congrArg Array.toList Try.results38) (by simp) (pures2 (pure_evs _) (pure_ints _)) (pureR_ints _) fun w S' => AWp.of_vc [] ?_
  have hll := hl.len
  have hfl := firstOf_len hl ids
  have hm : ids.length ≤ maxLen := by unfold maxLen; omega
  simp [go_sem]
  refine CallSem.pure (index_ac l) (by simp [go_sem]) ?_
  simp [go_sem]
  refine AWp.ownNil 6 3 1 (by simp [go_sem]) ?_
  refine AWp.loop_vc [] (fun m s => ∃ (k v : Nat), m = ids.length - k ∧ k ≤ ids.length ∧ s.σ 0 = evs l ∧ s.σ 5 = idxAV l ∧ s.σ 6 = .ref 6 v ∧ s.σ 13 = ints ids ∧ s.σ 14 = I ids.length ∧ s.σ 15 = I k ∧ s.ver 6 = v ∧ s.h 6 = .arr 3 1 ((firstOf l (ids.take k)).map I)) ids.length ⟨0, 1, by simp [go_sem, firstOf]⟩ ?_
  rintro m s ⟨k, v, rfl, hk, h0, h5, h6, h13, h14, h15, hv, hh⟩
  by_cases hlt : k < ids.length
  · have hsu := firstOf_succ (l := l) hlt
    have hkl := firstOf_len hl (ids.take k)
    rw [List.length_take] at hkl
    generalize firstOf l (ids.take k) = X at hh hsu hkl
    rcases idx_get l ids[k] with ⟨hg, hm2⟩ | ⟨j, hj, hg, hm2⟩
    · rw [hg] at hsu
      simp [go_sem, h0, h5, h6, h13, h14, h15, hv, hh, hlt, hm2, wrap_succ hlt hm]
      exact ⟨ids.length - (k + 1), by omega, k + 1, rfl, by omega, rfl, by rw [hsu]; simp⟩
    · rw [hg] at hsu
      have h40 := hl.auth l[j] (List.getElem_mem hj)
      simp [go_sem, h0, h5, h6, h13, h14, h15, hv, hh, hlt, hj, hm2, wrap_succ hlt hm]
      exact ⟨⟨by omega, by omega⟩, ids.length - (k + 1), by omega, k + 1, rfl, by omega, rfl, by rw [hsu]; simp⟩
  · rw [List.take_of_length_le (by omega)] at hh
    simp [go_sem, h0, h5, h6, h13, h14, h15, hv, hh, hlt]
    refine CallSem.freeze 6 ?_
    simp [go_sem, h0, h5, h6, h13, h14, h15, hv, hh, hlt]
    refine CallSem.pure (reach_ac l (firstOf l ids) _ true chainC_ac (by omega) (by omega) (hl.refs true)) (by simp [go_sem]) ?_
    simp [go_sem]
    refine PostR.ret ?_
    simp [go_sem, chainOf]
noncomputable def beforeOf (l : List Evt) (a b : Int) : Bool := !(a == b) && (reachOf l false [b]).contains a
end Go.Proofs.Ytabjpmleboeimaa

-- part G3
namespace Go.Proofs.Ytabjpmleboeimaa
open Go Go.Abs
set_option linter.unusedSimpArgs false
def belowAt (e : Evt) (n : Int) : List Int := e.prev.filter fun p => !(p == n)
def belowOf (l : List Evt) (ids : List Int) : List Int := ids.flatMap fun n => ((getE l n).map fun e => belowAt e n).getD []
def hasCr2 (l : List Int) (n : Int) : Bool := l.contains n
def headsOf (l : List Evt) (ids : List Int) : List Int := sortedSet (ids.filter fun n => !hasCr2 (belowOf l ids) n)
theorem belowOf_succ {l : List Evt} {ids : List Int} {k : Nat} (h : k < ids.length) : belowOf l (ids.take (k + 1)) = belowOf l (ids.take k) ++ ((getE l ids[k]).map fun e => belowAt e ids[k]).getD [] := by
  unfold belowOf
  rw [List.take_succ_eq_append_getElem h, List.flatMap_append]; simp
theorem belowAt_succ {e : Evt} {n : Int} {q : Nat} (h : q < e.prev.length) : ((e.prev.take (q + 1)).filter fun p => !(p == n)) = ((e.prev.take q).filter fun p => !(p == n)) ++ if e.prev[q] = n then [] else [e.prev[q]] := by
  rw [List.take_succ_eq_append_getElem h, List.filter_append]
  by_cases g : e.prev[q] = n <;> simp [g]
theorem FoundM.get {es : Array MapEntry} {L : List Int} (h : FoundM es L) (n : Int) : (mget es n).getD (.bool false) = .bool (hasCr2 L n) := by
  rw [h.2]
  unfold hasCr2
  by_cases g : n ∈ L
  · rw [if_pos g]; simp [g]
  · rw [if_neg g]; simp [g]
theorem filter_take3 (p : Int → Bool) (l : List Int) (k : Nat) (h : k < l.length) : (l.take (k + 1)).filter p = (l.take k).filter p ++ if p l[k] = true then [l[k]] else [] := by
  rw [List.take_succ_eq_append_getElem h, List.filter_append]
  cases g : p l[k] <;> simp [g]
def rootsOf (l : List Evt) : List Int := (l.filter fun e => e.prev.isEmpty).map (·.id)
theorem rootsOf_succ {l : List Evt} {k : Nat} (h : k < l.length) : rootsOf (l.take (k + 1)) = rootsOf (l.take k) ++ if l[k].prev = [] then [l[k].id] else [] := by
  unfold rootsOf
  rw [List.take_succ_eq_append_getElem h, List.filter_append, List.map_append]
  cases g : l[k].prev <;> simp [g]
theorem rootsOf_len (l : List Evt) : (rootsOf l).length ≤ l.length := by
  unfold rootsOf; rw [List.length_map]; exact List.length_filter_le _ _
end Go.Proofs.Ytabjpmleboeimaa

-- part G4
namespace Go.Proofs.Ytabjpmleboeimaa
open Go Go.Abs
set_option linter.unusedSimpArgs false
def leE (a b : Evt) : Bool := decide (a.depth < b.depth) || (a.depth == b.depth && decide (a.id ≤ b.id))
/-- An event among those that stand in order. -/
def insE (A : List Evt) (x : Evt) : List Evt := A.takeWhile (leE · x) ++ x :: A.dropWhile (leE · x)
def isortE (l : List Evt) : List Evt := l.foldl insE []
def orderOf (l : List Evt) : List Int := (isortE l).map (·.id)
theorem isortE_succ {l : List Evt} {k : Nat} (h : k < l.length) : isortE (l.take (k + 1)) = insE (isortE (l.take k)) l[k] := by
  unfold isortE; rw [List.take_succ_eq_append_getElem h, List.foldl_append]; rfl
theorem leE_refl (a : Evt) : leE a a = true := by simp [leE]
theorem leE_trans {a b c : Evt} (h1 : leE a b = true) (h2 : leE b c = true) : leE a c = true := by
  simp only [leE, Bool.or_eq_true, decide_eq_true_eq, Bool.and_eq_true, beq_iff_eq] at *
  omega
theorem leE_total {a b : Evt} (h : leE a b = false) : leE b a = true := by
  simp only [leE, Bool.or_eq_true, decide_eq_true_eq, Bool.and_eq_true, beq_iff_eq, Bool.or_eq_false_iff, decide_eq_false_iff_not, Bool.and_eq_false_iff, beq_eq_false_iff_ne] at *
  omega
theorem insE_perm (A : List Evt) (x : Evt) : (insE A x).Perm (A ++ [x]) := by
  unfold insE
  have h : (A.takeWhile (leE · x) ++ A.dropWhile (leE · x)) = A := List.takeWhile_append_dropWhile
  refine List.Perm.trans List.perm_middle ?_
  rw [h]
  exact (List.perm_append_singleton x A).symm
theorem insE_len (A : List Evt) (x : Evt) : (insE A x).length = A.length + 1 := by rw [(insE_perm A x).length_eq]; simp
theorem isortE_perm (l : List Evt) : (isortE l).Perm l := by
  have : ∀ (l A : List Evt), (l.foldl insE A).Perm (A ++ l) := by
    intro l
    induction l with
    | nil => intro A; simp
    | cons x l ih =>
      intro A
      refine (ih (insE A x)).trans ?_
      have := (insE_perm A x).append_right l
      simpa using this
  have h := this l []
  rw [List.nil_append] at h
  exact h
theorem isortE_len (l : List Evt) : (isortE l).length = l.length := (isortE_perm l).length_eq
theorem insE_sorted {A : List Evt} {x : Evt} (h : A.Pairwise fun a b => leE a b = true) : (insE A x).Pairwise fun a b => leE a b = true := by
  induction A with
  | nil => simp [insE]
  | cons a A ih =>
    rw [List.pairwise_cons] at h
    unfold insE
    by_cases g : leE a x = true
    · have e : insE (a :: A) x = a :: insE A x := by simp [insE, List.takeWhile_cons, List.dropWhile_cons, g]
      have := ih h.2
      show (insE (a :: A) x).Pairwise _
      rw [e, List.pairwise_cons]
      refine ⟨fun b hb => ?_, this⟩
      rcases List.mem_append.1 ((insE_perm A x).mem_iff.1 hb) with hb | hb
      · exact h.1 b hb
      · simp only [List.mem_singleton] at hb; subst hb; exact g
    · have g' : leE a x = false := by simpa using g
      have e : insE (a :: A) x = x :: a :: A := by simp [insE, List.takeWhile_cons, List.dropWhile_cons, g']
      show (insE (a :: A) x).Pairwise _
      have hxa := leE_total g'
      rw [e, List.pairwise_cons, List.pairwise_cons]
      refine ⟨fun b hb => ?_, h.1, h.2⟩
      rcases List.mem_cons.1 hb with rfl | hb
      · exact hxa
      · exact leE_trans hxa (h.1 b hb)
theorem isortE_sorted (l : List Evt) : (isortE l).Pairwise fun a b => leE a b = true := by
  have : ∀ (l A : List Evt), A.Pairwise (fun a b => leE a b = true) → (l.foldl insE A).Pairwise fun a b => leE a b = true := by
    intro l
    induction l with
    | nil => intro A h; exact h
    | cons x l ih => intro A h; exact ih _ (insE_sorted h)
  exact this l [] List.Pairwise.nil
/-- The list while the new one moves to its place. -/
def mid (A : List Evt) (x : Evt) (k : Nat) : List Evt := A.take k ++ x :: A.drop k
theorem mid_len {A : List Evt} {x : Evt} {k : Nat} (hk : k ≤ A.length) : (mid A x k).length = A.length + 1 := by
  simp only [mid, List.length_append, List.length_take, List.length_cons, List.length_drop]; omega
theorem mid_full (A : List Evt) (x : Evt) : mid A x A.length = A ++ [x] := by simp [mid]
theorem mid_at {A : List Evt} {x : Evt} {k : Nat} (hk : k ≤ A.length) : (mid A x k)[k]? = some x := by
  unfold mid
  rw [List.getElem?_append_right (by simp; omega)]
  simp [Nat.min_eq_left hk]
theorem mid_below {A : List Evt} {x : Evt} {k : Nat} (hk : k < A.length) : (mid A x (k + 1))[k]? = some A[k] := by
  unfold mid
  rw [List.getElem?_append_left (by simp; omega), List.getElem?_take_of_lt (by omega), List.getElem?_eq_getElem hk]
theorem mid_swap {A : List Evt} {x : Evt} {k : Nat} (hk : k < A.length) : ((mid A x (k + 1)).set k x).set (k + 1) A[k] = mid A x k := by
  apply List.ext_getElem?
  intro j
  rw [List.getElem?_set, List.getElem?_set]
  have hl : (mid A x (k + 1)).length = A.length + 1 := mid_len (by omega)
  simp only [List.length_set, hl]
  by_cases h1 : k + 1 = j
  · subst h1
    have hx : (mid A x k)[k + 1]? = some A[k] := by
      unfold mid
      rw [List.getElem?_append_right (by simp; omega)]
      simp only [List.length_take, Nat.min_eq_left (Nat.le_of_lt hk), Nat.add_sub_cancel_left]
      rw [List.getElem?_cons_succ, List.drop_eq_getElem_cons hk]
      rfl
    rw [if_pos rfl, if_pos (by omega), hx]
  · rw [if_neg h1]
    by_cases h2 : k = j
    · subst h2
      rw [if_pos rfl, if_pos (by omega), mid_at (by omega)]
    · rw [if_neg h2]
      unfold mid
      by_cases h3 : j < k
      · rw [List.getElem?_append_left (by simp; omega), List.getElem?_append_left (by simp; omega), List.getElem?_take_of_lt (by omega), List.getElem?_take_of_lt (by omega)]
      · rw [List.getElem?_append_right (by simp; omega), List.getElem?_append_right (by simp; omega)]
        simp only [List.length_take, Nat.min_eq_left (show k + 1 ≤ A.length by omega), Nat.min_eq_left (Nat.le_of_lt hk)]
        obtain ⟨i, rfl⟩ : ∃ i, j = k + 2 + i := ⟨j - (k + 2), by omega⟩
        rw [show k + 2 + i - (k + 1) = i + 1 by omega, show k + 2 + i - k = (i + 1) + 1 by omega, List.getElem?_cons_succ, List.getElem?_cons_succ, List.getElem?_drop, List.getElem?_drop]
        congr 1; omega
theorem mid_done {A : List Evt} {x : Evt} {k : Nat} (hs : A.Pairwise fun a b => leE a b = true) (hk : k ≤ A.length) (hup : ∀ a ∈ A.drop k, leE a x = false) (hlo : ∀ (j : Nat) (h : j < A.length), j + 1 = k → leE A[j] x = true) : mid A x k = insE A x := by
  have hall : ∀ a ∈ A.take k, leE a x = true := by
    intro a ha
    obtain ⟨j, hj, rfl⟩ := List.mem_take_iff_getElem.1 ha
    rcases Nat.lt_or_ge (j + 1) k with h | h
    · have h2 := hlo (k - 1) (by omega) (by omega)
      have h1 := List.pairwise_iff_getElem.1 hs j (k - 1) (by omega) (by omega) (by omega)
      exact leE_trans h1 h2
    · exact hlo j (by omega) (by omega)
  unfold mid insE
  have ht : A.takeWhile (leE · x) = A.take k := by
    conv => lhs; rw [← List.take_append_drop k A]
    rw [List.takeWhile_append_of_pos (fun a ha => hall a ha)]
    cases hd : A.drop k with
    | nil => simp
    | cons b B =>
      have := hup b (by rw [hd]; exact List.mem_cons_self ..)
      simp [List.takeWhile_cons, this]
  have hdw : A.dropWhile (leE · x) = A.drop k := by
    conv => lhs; rw [← List.take_append_drop k A]
    rw [List.dropWhile_append_of_pos (fun a ha => hall a ha)]
    cases hd : A.drop k with
    | nil => simp
    | cons b B =>
      have := hup b (by rw [hd]; exact List.mem_cons_self ..)
      simp [List.dropWhile_cons, this]
  rw [ht, hdw]
/-- What stands behind is greater. -/
def UpB (A : List Evt) (x : Evt) (k : Nat) : Prop := ∀ a ∈ A.drop k, leE a x = false
theorem UpB.full (A : List Evt) (x : Evt) : UpB A x A.length := fun a ha => by simp at ha
theorem UpB.step {A : List Evt} {x : Evt} {k : Nat} (hk : k < A.length) (h : UpB A x (k + 1)) (hb : leE A[k] x = false) : UpB A x k := fun a ha => by
  rw [List.drop_eq_getElem_cons hk] at ha
  rcases List.mem_cons.1 ha with rfl | ha
  · exact hb
  · exact h a ha
/-- The ids so far, and zeros. -/
def fillz (S : List Evt) (k : Nat) : List AV := ((S.take k).map fun e => I e.id) ++ List.replicate (S.length - k) (I 0)
theorem fillz_zero (S : List Evt) : List.replicate S.length (AV.v (.int .i64 0)) = fillz S 0 := by simp [fillz, I]
theorem fillz_len {S : List Evt} {k : Nat} (hk : k ≤ S.length) : (fillz S k).length = S.length := by simp [fillz]; omega
theorem fillz_full (S : List Evt) : fillz S S.length = S.map fun e => I e.id := by simp [fillz]
theorem fillz_set {S : List Evt} {k : Nat} (hk : k < S.length) : (fillz S k).set k (.v (.int .i64 S[k].id)) = fillz S (k + 1) := by
  unfold fillz
  have hl : ((S.take k).map fun e => I e.id).length = k := by simp; omega
  rw [List.set_append_right _ _ (by omega), hl, Nat.sub_self]
  obtain ⟨n, hn⟩ : ∃ n, S.length - k = n + 1 := ⟨S.length - k - 1, by omega⟩
  rw [hn, List.replicate_succ, List.set_cons_zero, List.take_succ_eq_append_getElem hk, List.map_append, List.append_assoc, show S.length - (k + 1) = n by omega]
  rfl
def plc (e : Evt) : AV := .agg [I e.depth, I e.id]
end Go.Proofs.Ytabjpmleboeimaa

-- part G5
namespace Go.Proofs.Ytabjpmleboeimaa
open Go Go.Abs
set_option linter.unusedSimpArgs false
def midI (L : List Int) (y : Int) (q : Nat) : List Int := L.take q ++ y :: L.drop q
theorem midI_len {L : List Int} {y : Int} {q : Nat} (h : q ≤ L.length) : (midI L y q).length = L.length + 1 := by
  simp only [midI, List.length_append, List.length_take, List.length_cons, List.length_drop]; omega
theorem midI_full (L : List Int) (y : Int) : midI L y L.length = L ++ [y] := by simp [midI]
theorem midI_below {L : List Int} {y : Int} {p : Nat} (h : p < L.length) : (midI L y (p + 1))[p]? = some L[p] := by
  unfold midI
  rw [List.getElem?_append_left (by simp; omega), List.getElem?_take_of_lt (by omega), List.getElem?_eq_getElem h]
theorem midI_set (L : List Int) (y n : Int) (q : Nat) (h : q ≤ L.length) : (midI L y q).set q n = midI L n q := by
  unfold midI
  have hl : (L.take q).length = q := by simp; omega
  rw [List.set_append_right _ _ (by omega), hl, Nat.sub_self, List.set_cons_zero]
theorem midI_move {L : List Int} {y : Int} {p : Nat} (h : p < L.length) : (midI L y (p + 1)).set (p + 1) L[p] = midI L L[p] p := by
  rw [midI_set _ _ _ _ (by omega)]
  unfold midI
  rw [List.take_succ_eq_append_getElem h, List.append_assoc, List.drop_eq_getElem_cons h]
  rfl
theorem put_here {L : List Int} {n : Int} {k : Nat} (hs : L.Pairwise (· < ·)) (hk : k < L.length) (he : L[k] = n) : putL L n = L := by
  unfold putL
  have : L.contains n = true := by
    have hmem : n ∈ L := by rw [← he]; exact List.getElem_mem hk
    simpa using hmem
  rw [if_pos this]
theorem put_mid {L : List Int} {n : Int} {k : Nat} (hs : L.Pairwise (· < ·)) (hk : k ≤ L.length) (hup : AllUp (fun x => decide (x < n)) L k) (hno : ∀ h : k < L.length, n < L[k]) : putL L n = midI L n k := by
  have hlo : ∀ (j : Nat) x, L[j]? = some x → j < k → x < n := fun j x hx hj => by
    unfold AllUp at hup
    rw [List.all_eq_true] at hup
    have : x ∈ L.take k := List.mem_of_getElem? (i := j) (by rw [List.getElem?_take_of_lt hj]; exact hx)
    simpa using hup x this
  have hhi : ∀ (j : Nat) x, L[j]? = some x → k ≤ j → n < x := fun j x hx hj => by
    have hjl : j < L.length := (List.getElem?_eq_some_iff.1 hx).1
    have h0 := hno (by omega)
    have hxj : L[j] = x := (List.getElem?_eq_some_iff.1 hx).2
    rcases Nat.eq_or_lt_of_le hj with rfl | hlt
    · rw [← hxj]; exact h0
    · have := List.pairwise_iff_getElem.1 hs k j (by omega) hjl hlt
      rw [hxj] at this; omega
  have hnc : L.contains n = false := by
    rw [Bool.eq_false_iff]
    intro hc
    have hc : n ∈ L := by simpa using hc
    obtain ⟨j, hj⟩ := List.mem_iff_getElem?.1 hc
    rcases Nat.lt_or_ge j k with h | h
    · have := hlo j n hj h; omega
    · have := hhi j n hj h; omega
  unfold putL
  rw [if_neg (by simpa using hnc)]
  unfold midI
  obtain ⟨ht, hd⟩ := takeWhile_take L n k hk (fun j hj x hx => hlo j x hx hj) (fun x hx => by have := hhi k x hx (Nat.le_refl _); omega)
  rw [ht, hd]
set_option maxRecDepth 8000 in
set_option maxHeartbeats 4000000 in
theorem with_sem {G : Ctx} (hG : G.P = Try.prog) {st : St} {dst : Option Tmp} {K : St → Prop} {id v : Nat} {L : List Int} {n : Int} (hd : dstOK G.n dst) (hid : id < 20000) (hv : st.ver id = v) (hh : st.h id = .arr 3 1 (L.map I)) (hs : L.Pairwise (· < ·)) (hsz : L.length ≤ 1000000)
    (hK : ∀ s v', s.ver id = v' → s.h id = .arr 3 1 ((putL L n).map I) → K ((st.mem s).put dst (.ref id v'))) : CallSem G 74 [.ref id v, I n] dst K st := by
  obtain ⟨P, w0, S0, nn, rnd, ids, e0⟩ := G
  subst hG
  have hm : L.length ≤ maxLen := by unfold maxLen; omega
  refine CallSem.inline 20000 Try.func74 rfl rfl Try.ntmps74 (congrArg Array.toList Try.results74) (by simp) hd fun e1 => AWp.of_vc [] ?_
  simp [go_sem]
  refine AWp.loop_vc [] (fun m s => ∃ k : Nat, k ≤ L.length ∧ m = L.length - k ∧ s.σ 0 = .ref id v ∧ s.σ 1 = I n ∧ s.σ 5 = I k ∧ s.ver id = v ∧ s.h id = .arr 3 1 (L.map I) ∧ AllUp (fun x => decide (x < n)) L k) L.length ⟨0, by simp [go_sem, AllUp.zero, hv, hh]⟩ ?_
  rintro m s ⟨k, hk, rfl, h0, h1, h5, hv, hh, hup⟩
  by_cases hlt : k < L.length
  · by_cases hc : L[k] < n
    · simp [go_sem, h0, h1, h5, hv, hh, hlt, hc, wrap_succ hlt hm]
      exact ⟨L.length - (k + 1), by omega, k + 1, by omega, rfl, rfl, hup.succ hlt (by simpa using hc)⟩
    · by_cases he : L[k] = n
      · have hput := put_here hs hlt he
        simp [go_sem, h0, h1, h5, hv, hh, hlt, hc, he]
        refine PostIn.ret (r := .ref id v) (by simp [go_sem, resIn]) ?_
        exact hK _ v (by simp [go_sem, hv]) (by simp [go_sem, hh, hput])
      · have hno : ∀ h : k < L.length, n < L[k] := fun _ => by omega
        simp [go_sem, h0, h1, h5, hv, hh, hlt, hc, he]
        refine ⟨⟨by omega, by omega⟩, ?_⟩
        refine AWp.loop_vc [] (fun m s => ∃ (q : Nat) (y : Int), k ≤ q ∧ q ≤ L.length ∧ m = q ∧ s.σ 0 = .ref id (v + 1) ∧ s.σ 1 = I n ∧ s.σ 5 = I k ∧ s.σ 6 = I q ∧ s.ver id = v + 1 ∧ s.h id = .arr 3 1 ((midI L y q).map I)) L.length ⟨L.length, n, by simp [go_sem, h0, h1, h5, hv, hh, hk, wrap_natN hm, midI_full]⟩ ?_
        clear h0 h1 h5 hv hh
        rintro m s ⟨q, y, hkq, hq, hmq, h0, h1, h5, h6, hv, hh⟩
        by_cases hlq : k < q
        · obtain ⟨p, rfl⟩ : ∃ p, q = p + 1 := ⟨q - 1, by omega⟩
          have hp : p < L.length := (by omega)
          have hbl := midI_below (y := y) hp
          have hmv := midI_move (y := y) hp
          have hml := midI_len (y := y) hq
          generalize hz : L[p] = z at hbl hmv
          generalize midI L y (p + 1) = M at hh hbl hmv hml
          have hpM : p < M.length := (by omega)
          have hqM : p + 1 < M.length := (by omega)
          have hqMi : (p : Int) + 1 < (M.length : Int) := (by omega)
          have hbl' : M[p] = z := by rw [List.getElem?_eq_getElem hpM] at hbl; exact Option.some.inj hbl
          have hlqi : (k : Int) < (p : Int) + 1 := (by omega)
          have h6' : s.σ 6 = I ((p : Int) + 1) := h6
          have hpos2 : (0 : Int) ≤ (p : Int) + 1 := (by omega)
          have htn : ((p : Int) + 1).toNat = p + 1 := (by omega)
          have hw : IntKind.i64.wrap (p : Int) = p := wrap_natN (by omega)
          simp [go_sem, h0, h1, h5, h6', hv, hh, hlqi, hpos2, htn, hw, hpM, hqM, hqMi, hbl']
          exact ⟨p, by omega, p, by omega, by omega, rfl, rfl, z, by rw [← hmv]; simp [List.map_set, I]⟩
        · obtain rfl : q = k := (by omega)
          have hset := midI_set L y n q hq
          have hml := midI_len (y := y) hq
          have hput := put_mid hs hq hup hno
          rw [← hput] at hset
          generalize midI L y q = M at hh hset hml
          have hqM : q < M.length := (by omega)
          simp [go_sem, h0, h1, h5, h6, hv, hh, hlq, hqM]
          refine PostIn.ret (r := .ref id (v + 1)) (by simp [go_sem, resIn]) ?_
          exact hK _ (v + 1) (by simp [go_sem, hv]) (by simp [go_sem, hh]; rw [← hset]; simp [List.map_set, I])
  · have hno : ∀ h : k < L.length, n < L[k] := fun h => absurd h hlt
    simp [go_sem, h0, h1, h5, hv, hh, hlt]
    refine ⟨⟨by omega, by omega⟩, ?_⟩
    refine AWp.loop_vc [] (fun m s => ∃ (q : Nat) (y : Int), k ≤ q ∧ q ≤ L.length ∧ m = q ∧ s.σ 0 = .ref id (v + 1) ∧ s.σ 1 = I n ∧ s.σ 5 = I k ∧ s.σ 6 = I q ∧ s.ver id = v + 1 ∧ s.h id = .arr 3 1 ((midI L y q).map I)) L.length ⟨L.length, n, by simp [go_sem, h0, h1, h5, hv, hh, hk, wrap_natN hm, midI_full]⟩ ?_
    clear h0 h1 h5 hv hh
    rintro m s ⟨q, y, hkq, hq, hmq, h0, h1, h5, h6, hv, hh⟩
    by_cases hlq : k < q
    · obtain ⟨p, rfl⟩ : ∃ p, q = p + 1 := ⟨q - 1, by omega⟩
      have hp : p < L.length := (by omega)
      have hbl := midI_below (y := y) hp
      have hmv := midI_move (y := y) hp
      have hml := midI_len (y := y) hq
      generalize hz : L[p] = z at hbl hmv
      generalize midI L y (p + 1) = M at hh hbl hmv hml
      have hpM : p < M.length := (by omega)
      have hqM : p + 1 < M.length := (by omega)
      have hqMi : (p : Int) + 1 < (M.length : Int) := (by omega)
      have hbl' : M[p] = z := by rw [List.getElem?_eq_getElem hpM] at hbl; exact Option.some.inj hbl
      have hlqi : (k : Int) < (p : Int) + 1 := (by omega)
      have h6' : s.σ 6 = I ((p : Int) + 1) := h6
      have hpos2 : (0 : Int) ≤ (p : Int) + 1 := (by omega)
      have htn : ((p : Int) + 1).toNat = p + 1 := (by omega)
      have hw : IntKind.i64.wrap (p : Int) = p := wrap_natN (by omega)
      simp [go_sem, h0, h1, h5, h6', hv, hh, hlqi, hpos2, htn, hw, hpM, hqM, hqMi, hbl']
      exact ⟨p, by omega, p, by omega, by omega, rfl, rfl, z, by rw [← hmv]; simp [List.map_set, I]⟩
    · obtain rfl : q = k := (by omega)
      have hset := midI_set L y n q hq
      have hml := midI_len (y := y) hq
      have hput := put_mid hs hq hup hno
      rw [← hput] at hset
      generalize midI L y q = M at hh hset hml
      have hqM : q < M.length := (by omega)
      simp [go_sem, h0, h1, h5, h6, hv, hh, hlq, hqM]
      refine PostIn.ret (r := .ref id (v + 1)) (by simp [go_sem, resIn]) ?_
      exact hK _ (v + 1) (by simp [go_sem, hv]) (by simp [go_sem, hh]; rw [← hset]; simp [List.map_set, I])
theorem sortedL_snoc (a : List Int) (n : Int) : sortedL (a ++ [n]) = putL (sortedL a) n := by unfold sortedL; rw [List.foldl_append]; rfl
theorem sortedL_lenG (a : List Int) : (sortedL a).length ≤ a.length := by have := foldl_putL_len a []; simpa [sortedL] using this
def missOf (l : List Evt) (ids : List Int) : List Int := sortedL (ids.filter fun n => !knownB l n)
set_option maxRecDepth 8000 in
set_option maxHeartbeats 4000000 in
theorem missing_ac (l : List Evt) (ids : List Int) (hsz : ids.length ≤ 100000) : AC Try.prog 62 [evs l, ints ids] (ints (missOf l ids)) := by
  refine AC.of_body Try.func62 rfl rfl Try.ntmps62 (congrArg Array.toList Try.results62) (by simp) (pures2 (pure_evs _) (pure_ints _)) (pureR_ints _) fun w S' => AWp.of_vc [] ?_
  have hm : ids.length ≤ maxLen := by unfold maxLen; omega
  simp [go_sem]
  refine AWp.ownNil 5 3 1 (by simp [go_sem]) ?_
  refine AWp.loop_vc [] (fun m s => ∃ k v : Nat, k ≤ ids.length ∧ m = ids.length - k ∧ s.σ 0 = evs l ∧ s.σ 1 = ints ids ∧ s.σ 6 = I k ∧ s.σ 5 = .ref 5 v ∧ s.ver 5 = v ∧ s.h 5 = .arr 3 1 ((missOf l (ids.take k)).map I)) ids.length ⟨0, 1, by simp [go_sem, missOf, sortedL]⟩ ?_
  rintro m s ⟨k, v, hk, rfl, h0, h1, h6, h5, hv, hh⟩
  by_cases hlt : k < ids.length
  · have hsu := filter_take3 (fun n => !knownB l n) ids k hlt
    have hml := sortedL_lenG ((ids.take k).filter fun n => !knownB l n)
    have hfl := List.length_filter_le (fun n => !knownB l n) (ids.take k)
    have hss := (sortedL_sorted ((ids.take k).filter fun n => !knownB l n)).1
    rw [List.length_take] at hfl
    unfold missOf at hh
    have hnew : missOf l (ids.take (k + 1)) = sortedL ((ids.take k).filter (fun n => !knownB l n) ++ if (!knownB l ids[k]) = true then [ids[k]] else []) := by unfold missOf; rw [hsu]
    generalize (ids.take k).filter (fun n => !knownB l n) = F at hh hml hfl hss hnew
    simp [go_sem, h0, h1, h6, h5, hv, hh, hlt]
    refine CallSem.pure (rplace_ac l ids[k]) (by simp [go_sem]) ?_
    rcases idxI_find (fun e : Evt => e.id == ids[k]) l with ⟨hf, hi⟩ | ⟨j, hj, hf, hi⟩
    · have hkn : knownB l ids[k] = false := by unfold knownB getE; rw [hf]; rfl
      rw [hkn] at hnew
      simp only [Bool.not_false, if_true] at hnew
      rw [sortedL_snoc] at hnew
      simp [go_sem, h0, h1, h6, h5, hv, hh, hlt, hi]
      refine with_sem rfl (by simp [go_sem]) (by decide) (by simp [go_sem, hv]) (by simp [go_sem, hh]) hss (by omega) ?_
      intro s' v' hv' hh'
      simp [go_sem, h0, h1, h6, h5, hv', hh', hlt, hi, wrap_succ hlt hm]
      exact ⟨ids.length - (k + 1), by omega, k + 1, by omega, rfl, rfl, by rw [hnew]⟩
    · have hkn : knownB l ids[k] = true := by unfold knownB getE; rw [hf]; rfl
      rw [hkn] at hnew
      have hneg : ¬ ((j : Int) < 0) := by omega
      simp [go_sem, h0, h1, h6, h5, hv, hh, hlt, hi, hneg, wrap_succ hlt hm]
      exact ⟨ids.length - (k + 1), by omega, k + 1, by omega, rfl, rfl, by rw [hnew]; simp⟩
  · rw [List.take_of_length_le (by omega)] at hh
    simp [go_sem, h0, h1, h6, h5, hv, hh, hlt]
    refine PostR.retW [5] ?_ (.refl _)
    simp [go_sem, h5, hv, hh]
def refsAll (l : List Evt) : List Int := l.flatMap fun e => e.prev ++ e.auth
theorem refsAll_succ {l : List Evt} {k : Nat} (h : k < l.length) : refsAll (l.take (k + 1)) = (refsAll (l.take k) ++ l[k].prev) ++ l[k].auth := by
  unfold refsAll; rw [List.take_succ_eq_append_getElem h, List.flatMap_append]; simp
theorem refsAll_len : ∀ {l : List Evt}, (∀ e ∈ l, e.prev.length ≤ 40 ∧ e.auth.length ≤ 40) → (refsAll l).length ≤ 80 * l.length
  | [], _ => Nat.le_refl _
  | e :: l, h => by
    have ih := refsAll_len (l := l) fun x hx => h x (List.mem_cons_of_mem _ hx)
    have he := h e (List.mem_cons_self ..)
    have : refsAll (e :: l) = (e.prev ++ e.auth) ++ refsAll l := by simp [refsAll]
    rw [this, List.length_append, List.length_append, List.length_cons]; omega
theorem take_snoc {a : List Int} {q : Nat} (h : q < a.length) (X : List Int) : X ++ a.take (q + 1) = (X ++ a.take q) ++ [a[q]] := by rw [List.take_succ_eq_append_getElem h, List.append_assoc]
theorem closed_miss (l : List Evt) : (missOf l (sortedL (refsAll l)) = []) ↔ closedOf l = true := by
  unfold closedOf
  have h1 : missOf l (sortedL (refsAll l)) = [] ↔ ∀ n ∈ refsAll l, knownB l n = true := by
    unfold missOf
    constructor
    · intro h n hn
      by_cases g : knownB l n = true
      · exact g
      · have : n ∈ sortedL ((sortedL (refsAll l)).filter fun n => !knownB l n) := by
          rw [(sortedL_sorted _).2, List.mem_filter, (sortedL_sorted _).2]
          exact ⟨hn, by simpa using g⟩
        rw [h] at this; cases this
    · intro h
      rw [List.eq_nil_iff_forall_not_mem]
      intro n hn
      rw [(sortedL_sorted _).2, List.mem_filter, (sortedL_sorted _).2] at hn
      have := h n hn.1
      rw [this] at hn
      exact absurd hn.2 (by simp)
  rw [h1]
  simp only [refsAll, allKnown, List.mem_flatMap, List.mem_append, List.all_eq_true, Bool.and_eq_true]
  constructor
  · intro h e he
    exact ⟨fun n hn => h n ⟨e, he, .inl hn⟩, fun n hn => h n ⟨e, he, .inr hn⟩⟩
  · rintro h n ⟨e, he, hn | hn⟩
    · exact (h e he).1 n hn
    · exact (h e he).2 n hn
end Go.Proofs.Ytabjpmleboeimaa

-- part G6
namespace Go.Proofs.Ytabjpmleboeimaa
open Go Go.Abs
set_option linter.unusedSimpArgs false
def nextL (l : List Evt) (b : Bool) (ids : List Int) : List Int := ids.flatMap fun n => (refsOf b ((getE l n).getD evZ)).filter (knownB l)
def nextS (l : List Evt) (b : Bool) (ids : List Int) : List Int := sortedL (nextL l b ids)
theorem nextL_succ {l : List Evt} {b : Bool} {ids : List Int} {k : Nat} (h : k < ids.length) : nextL l b (ids.take (k + 1)) = nextL l b (ids.take k) ++ (refsOf b ((getE l ids[k]).getD evZ)).filter (knownB l) := by
  unfold nextL; rw [List.take_succ_eq_append_getElem h, List.flatMap_append]; simp
theorem refsZ_len {l : List Evt} (hl : Fit l) (b : Bool) (n : Int) : (refsOf b ((getE l n).getD evZ)).length ≤ 40 := by
  cases hg : getE l n with
  | none => cases b <;> simp [refsOf, evZ]
  | some e => exact hl.refs b e (List.mem_of_find?_eq_some hg)
theorem nextL_len {l : List Evt} (hl : Fit l) (b : Bool) : ∀ ids : List Int, (nextL l b ids).length ≤ 40 * ids.length
  | [] => Nat.le_refl _
  | n :: ids => by
    have ih := nextL_len hl b ids
    have h1 : nextL l b (n :: ids) = (refsOf b ((getE l n).getD evZ)).filter (knownB l) ++ nextL l b ids := by simp [nextL]
    rw [h1, List.length_append, List.length_cons]
    have h2 := List.length_filter_le (knownB l) (refsOf b ((getE l n).getD evZ))
    have h3 := refsZ_len hl b n
    omega
theorem filter_snoc {p : Int → Bool} {a : List Int} {q : Nat} (h : q < a.length) (X : List Int) : X ++ (a.take (q + 1)).filter p = (X ++ (a.take q).filter p) ++ if p a[q] = true then [a[q]] else [] := by
  rw [filter_take3 p a q h, List.append_assoc]
theorem if_auth (b : Bool) (e : Evt) : (if b = true then ints e.auth else ints e.prev) = ints (refsOf b e) := by cases b <;> rfl
set_option maxRecDepth 8000 in
set_option maxHeartbeats 4000000 in
theorem next_ac (l : List Evt) (ids : List Int) (b : Bool) (hl : Fit l) (hsz : ids.length ≤ 1000) : AC Try.prog 43 [evs l, ints ids, B b] (ints (nextS l b ids)) := by
  refine AC.of_body Try.func43 rfl rfl Try.ntmps43 (congrArg Array.toList Try.results43) (by simp) (pures3 (pure_evs _) (pure_ints _) (pure_B _)) (pureR_ints _) fun w S' => AWp.of_vc [] ?_
  have hm : ids.length ≤ maxLen := by unfold maxLen; omega
  unfold nextS
  simp [go_sem]
  refine AWp.loop_vc [] (fun m s => ∃ k : Nat, k ≤ ids.length ∧ m = ids.length - k ∧ s.σ 0 = evs l ∧ s.σ 1 = ints ids ∧ s.σ 2 = B b ∧ s.σ 8 = I k ∧ s.σ 7 = ints (sortedL (nextL l b (ids.take k)))) ids.length ⟨0, by simp [go_sem, nextL, sortedL]⟩ ?_
  rintro m s ⟨k, hk, rfl, h0, h1, h2, h8, h7⟩
  by_cases hlt : k < ids.length
  · have hsu := nextL_succ (l := l) (b := b) hlt
    have hnl := nextL_len hl b (ids.take k)
    rw [List.length_take] at hnl
    have h40 := refsZ_len hl b ids[k]
    generalize nextL l b (ids.take k) = X at h7 hsu hnl
    simp [go_sem, h0, h1, h2, h8, h7, hlt]
    refine CallSem.pure (rgetE_ac l ids[k]) (by simp [go_sem]) ?_
    unfold optE
    generalize (getE l ids[k]).isSome = bb
    generalize (getE l ids[k]).getD evZ = e at hsu h40
    have hrm : (refsOf b e).length ≤ maxLen := by unfold maxLen; omega
    cases b with
    | true =>
      have hre : refsOf true e = e.auth := rfl
      rw [hre] at hsu h40 hrm
      simp [go_sem, h0, h1, h2, h8, h7, hlt]
      refine AWp.loop_vc [] (fun m s => ∃ q : Nat, q ≤ e.auth.length ∧ m = e.auth.length - q ∧ s.σ 0 = evs l ∧ s.σ 1 = ints ids ∧ s.σ 2 = B true ∧ s.σ 8 = I k ∧ s.σ 11 = ints e.auth ∧ s.σ 12 = I q ∧ s.σ 7 = ints (sortedL (X ++ (e.auth.take q).filter (knownB l)))) e.auth.length ⟨0, by simp [go_sem, h0, h1, h2, h8, h7]⟩ ?_
      clear h0 h1 h2 h8 h7
      rintro m s ⟨q, hq, rfl, h0, h1, h2, h8, h11, h12, h7⟩
      by_cases hlq : q < e.auth.length
      · have hfs := filter_snoc (p := knownB l) hlq X
        have hfl := List.length_filter_le (knownB l) (e.auth.take q)
        rw [List.length_take] at hfl
        have hYl : (X ++ (e.auth.take q).filter (knownB l)).length ≤ 100000 := by rw [List.length_append]; omega
        generalize X ++ (e.auth.take q).filter (knownB l) = Y at h7 hfs hYl
        have hsl := sortedL_lenG Y
        simp [go_sem, h0, h1, h2, h8, h11, h12, h7, hlq]
        refine CallSem.pure (rgetE_ac l e.auth[q]) (by simp [go_sem]) ?_
        unfold optE
        have hkn : knownB l e.auth[q] = (getE l e.auth[q]).isSome := rfl
        generalize (getE l e.auth[q]).getD evZ = e2
        cases hg : (getE l e.auth[q]).isSome with
        | true =>
          rw [hg] at hkn
          rw [hkn, if_pos rfl] at hfs
          simp [go_sem, h0, h1, h2, h8, h11, h12, h7, hlq]
          refine CallSem.pure (put_ac (sortedL Y) e.auth[q] (by omega)) (by simp [go_sem]) ?_
          rw [← sortedL_snoc, ← hfs]
          simp [go_sem, h0, h1, h2, h8, h11, h12, h7, hlq, wrap_succ hlq hrm]
          exact ⟨e.auth.length - (q + 1), by omega, q + 1, by omega, rfl, rfl, rfl⟩
        | false =>
          rw [hg] at hkn
          rw [hkn] at hfs
          simp [go_sem, h0, h1, h2, h8, h11, h12, h7, hlq, wrap_succ hlq hrm]
          exact ⟨e.auth.length - (q + 1), by omega, q + 1, by omega, rfl, rfl, by rw [hfs]; simp⟩
      · rw [List.take_of_length_le (by omega)] at h7
        simp [go_sem, h0, h1, h2, h8, h11, h12, h7, hlq, wrap_succ hlt hm]
        exact ⟨ids.length - (k + 1), by omega, k + 1, by omega, rfl, rfl, by rw [hsu]⟩
    | false =>
      have hre : refsOf false e = e.prev := rfl
      rw [hre] at hsu h40 hrm
      simp [go_sem, h0, h1, h2, h8, h7, hlt]
      refine AWp.loop_vc [] (fun m s => ∃ q : Nat, q ≤ e.prev.length ∧ m = e.prev.length - q ∧ s.σ 0 = evs l ∧ s.σ 1 = ints ids ∧ s.σ 2 = B false ∧ s.σ 8 = I k ∧ s.σ 11 = ints e.prev ∧ s.σ 12 = I q ∧ s.σ 7 = ints (sortedL (X ++ (e.prev.take q).filter (knownB l)))) e.prev.length ⟨0, by simp [go_sem, h0, h1, h2, h8, h7]⟩ ?_
      clear h0 h1 h2 h8 h7
      rintro m s ⟨q, hq, rfl, h0, h1, h2, h8, h11, h12, h7⟩
      by_cases hlq : q < e.prev.length
      · have hfs := filter_snoc (p := knownB l) hlq X
        have hfl := List.length_filter_le (knownB l) (e.prev.take q)
        rw [List.length_take] at hfl
        have hYl : (X ++ (e.prev.take q).filter (knownB l)).length ≤ 100000 := by rw [List.length_append]; omega
        generalize X ++ (e.prev.take q).filter (knownB l) = Y at h7 hfs hYl
        have hsl := sortedL_lenG Y
        simp [go_sem, h0, h1, h2, h8, h11, h12, h7, hlq]
        refine CallSem.pure (rgetE_ac l e.prev[q]) (by simp [go_sem]) ?_
        unfold optE
        have hkn : knownB l e.prev[q] = (getE l e.prev[q]).isSome := rfl
        generalize (getE l e.prev[q]).getD evZ = e2
        cases hg : (getE l e.prev[q]).isSome with
        | true =>
          rw [hg] at hkn
          rw [hkn, if_pos rfl] at hfs
          simp [go_sem, h0, h1, h2, h8, h11, h12, h7, hlq]
          refine CallSem.pure (put_ac (sortedL Y) e.prev[q] (by omega)) (by simp [go_sem]) ?_
          rw [← sortedL_snoc, ← hfs]
          simp [go_sem, h0, h1, h2, h8, h11, h12, h7, hlq, wrap_succ hlq hrm]
          exact ⟨e.prev.length - (q + 1), by omega, q + 1, by omega, rfl, rfl, rfl⟩
        | false =>
          rw [hg] at hkn
          rw [hkn] at hfs
          simp [go_sem, h0, h1, h2, h8, h11, h12, h7, hlq, wrap_succ hlq hrm]
          exact ⟨e.prev.length - (q + 1), by omega, q + 1, by omega, rfl, rfl, by rw [hfs]; simp⟩
      · rw [List.take_of_length_le (by omega)] at h7
        simp [go_sem, h0, h1, h2, h8, h11, h12, h7, hlq, wrap_succ hlt hm]
        exact ⟨ids.length - (k + 1), by omega, k + 1, by omega, rfl, rfl, by rw [hsu]⟩
  · rw [List.take_of_length_le (by omega)] at h7
    simp [go_sem, h0, h1, h2, h8, h7, hlt]
    refine PostR.ret ?_
    simp [go_sem]
def knownOf (l : List Evt) (ids : List Int) : List Int := minusOf ids (missOf l ids)
theorem mem_knownOf {l : List Evt} {ids : List Int} {n : Int} : n ∈ knownOf l ids ↔ n ∈ ids ∧ knownB l n = true := by
  unfold knownOf minusOf missOf hasI
  rw [List.mem_filter, (sortedL_sorted _).2]
  constructor
  · rintro ⟨h1, h2⟩
    refine ⟨h1, ?_⟩
    by_cases g : knownB l n = true
    · exact g
    · have : n ∈ sortedL (ids.filter fun n => !knownB l n) := by rw [(sortedL_sorted _).2, List.mem_filter]; exact ⟨h1, by simpa using g⟩
      simp [this] at h2
  · rintro ⟨h1, h2⟩
    refine ⟨h1, ?_⟩
    have : ¬ n ∈ sortedL (ids.filter fun n => !knownB l n) := by rw [(sortedL_sorted _).2, List.mem_filter, h2]; simp
    simp [this]
theorem knownOf_sorted (l : List Evt) (ids : List Int) : (knownOf l ids).Pairwise (· < ·) := by
  unfold knownOf minusOf; exact (sortedL_sorted _).1.filter _
theorem sorted_known_len {l : List Evt} {a : List Int} (hs : a.Pairwise (· < ·)) (hk : ∀ n ∈ a, knownB l n = true) : a.length ≤ l.length := by
  have := nodup_len (a := a) (b := l.map (·.id)) (hs.imp fun h => Int.ne_of_lt h) fun x hx => known_id (hk x hx)
  simpa using this
set_option maxRecDepth 8000 in
set_option maxHeartbeats 4000000 in
theorem known_ac (l : List Evt) (ids : List Int) (hsz : ids.length ≤ 100000) : AC Try.prog 44 [evs l, ints ids] (ints (knownOf l ids)) := by
  refine AC.of_body Try.func44 rfl rfl Try.ntmps44 (congrArg Array.toList Try.results44) (by simp) (pures2 (pure_evs _) (pure_ints _)) (pureR_ints _) fun w S' => AWp.of_vc [] ?_
  simp [go_sem]
  refine CallSem.pure (missing_ac l ids hsz) (by simp [go_sem]) ?_
  unfold knownOf
  generalize missOf l ids = M
  simp [go_sem]
  refine CallSem.pure (rminus_ac ids M hsz) (by simp [go_sem]) ?_
  simp [go_sem]
  refine PostR.ret ?_
  simp [go_sem]
theorem mem_nextS {l : List Evt} {b : Bool} {ids : List Int} {n : Int} : n ∈ nextS l b ids ↔ knownB l n = true ∧ ∃ m ∈ ids, ∃ e, getE l m = some e ∧ n ∈ refsOf b e := by
  unfold nextS nextL
  rw [(sortedL_sorted _).2, List.mem_flatMap]
  constructor
  · rintro ⟨m, hm, hn⟩
    rw [List.mem_filter] at hn
    refine ⟨hn.2, m, hm, ?_⟩
    cases hg : getE l m with
    | none => rw [hg] at hn; have := hn.1; cases b <;> simp [refsOf, evZ] at this
    | some e => rw [hg] at hn; exact ⟨e, rfl, hn.1⟩
  · rintro ⟨hk, m, hm, e, he, hn⟩
    refine ⟨m, hm, List.mem_filter.2 ⟨?_, hk⟩⟩
    rw [he]; exact hn
/-- What is reached in some steps. -/
def itR (l : List Evt) (b : Bool) (ids : List Int) : Nat → List Int
  | 0 => ids
  | k + 1 => sortedL (itR l b ids k ++ nextS l b (itR l b ids k))
section
variable {l : List Evt} {b : Bool} {ids : List Int}
theorem itR_sorted (hs : ids.Pairwise (· < ·)) : ∀ k, (itR l b ids k).Pairwise (· < ·)
  | 0 => hs
  | k + 1 => (sortedL_sorted _).1
theorem mem_itR_succ {k : Nat} {n : Int} : n ∈ itR l b ids (k + 1) ↔ n ∈ itR l b ids k ∨ n ∈ nextS l b (itR l b ids k) := by
  show n ∈ sortedL _ ↔ _
  rw [(sortedL_sorted _).2, List.mem_append]
theorem itR_reach (hk : ∀ n ∈ ids, knownB l n = true) : ∀ k, ∀ n ∈ itR l b ids k, Reach l b ids n
  | 0, n, h => .start h (hk n h)
  | k + 1, n, h => by
    rcases mem_itR_succ.1 h with h | h
    · exact itR_reach hk k n h
    · obtain ⟨hkn, m, hm, e, he, hn⟩ := mem_nextS.1 h
      exact .step (itR_reach hk k m hm) he hn hkn
theorem itR_len (hs : ids.Pairwise (· < ·)) (hk : ∀ n ∈ ids, knownB l n = true) (k : Nat) : (itR l b ids k).length ≤ l.length :=
  sorted_known_len (itR_sorted hs k) fun n hn => (itR_reach hk k n hn).known
theorem itR_start (k : Nat) : ∀ n ∈ ids, n ∈ itR l b ids k := by
  induction k with
  | zero => exact fun n h => h
  | succ k ih => exact fun n h => mem_itR_succ.2 (.inl (ih n h))
def ShutL (l : List Evt) (b : Bool) (a : List Int) : Prop := ∀ n ∈ nextS l b a, n ∈ a
theorem itR_shut (hs : ids.Pairwise (· < ·)) {k : Nat} (h : ShutL l b (itR l b ids k)) : itR l b ids (k + 1) = itR l b ids k :=
  strict_ext (itR_sorted hs _) (itR_sorted hs _) fun x => by rw [mem_itR_succ]; exact ⟨fun g => g.elim id (h x), .inl⟩
theorem itR_grow (hs : ids.Pairwise (· < ·)) : ∀ k, ShutL l b (itR l b ids k) ∨ k ≤ (itR l b ids k).length
  | 0 => .inr (Nat.zero_le _)
  | k + 1 => by
    rcases itR_grow hs k with h | h
    · left; rw [itR_shut hs h]; exact h
    · by_cases g : ShutL l b (itR l b ids k)
      · left; rw [itR_shut hs g]; exact g
      · right
        have g : ∃ n, n ∈ nextS l b (itR l b ids k) ∧ n ∉ itR l b ids k := by
          refine Classical.byContradiction fun hc => g fun n hn => Classical.byContradiction fun hno => hc ⟨n, hn, hno⟩
        obtain ⟨n, hn, hno⟩ := g
        have hnd : (n :: itR l b ids k).Nodup := List.nodup_cons.2 ⟨hno, (itR_sorted hs k).imp fun h => Int.ne_of_lt h⟩
        have := nodup_len (b := itR l b ids (k + 1)) hnd fun x hx => by
          rcases List.mem_cons.1 hx with rfl | hx
          · exact mem_itR_succ.2 (.inr hn)
          · exact mem_itR_succ.2 (.inl hx)
        simp only [List.length_cons] at this
        omega
theorem itR_end (hs : ids.Pairwise (· < ·)) (hk : ∀ n ∈ ids, knownB l n = true) : itR l b ids l.length = reachOf l b ids := by
  have hshut : ShutL l b (itR l b ids l.length) := by
    rcases itR_grow (l := l) (b := b) hs l.length with h | h
    · exact h
    · intro n hn
      refine Classical.byContradiction fun hno => ?_
      have hnd : (n :: itR l b ids l.length).Nodup := List.nodup_cons.2 ⟨hno, (itR_sorted hs _).imp fun h => Int.ne_of_lt h⟩
      have := nodup_len (b := l.map (·.id)) hnd fun x hx => by
        rcases List.mem_cons.1 hx with rfl | hx
        · exact known_id (mem_nextS.1 hn).1
        · exact known_id (itR_reach hk _ x hx).known
      simp only [List.length_cons, List.length_map] at this
      omega
  refine strict_ext (itR_sorted hs _) (reachOf_sorted l b ids) fun x => ?_
  rw [mem_reachOf]
  refine ⟨itR_reach hk _ x, fun h => ?_⟩
  induction h with
  | start h _ => exact itR_start _ _ h
  | step _ he hn hkn ih => exact hshut _ (mem_nextS.2 ⟨hkn, _, ih, _, he, hn⟩)
end
theorem reachOf_congr {l : List Evt} {b : Bool} {fr fr' : List Int} (h : ∀ n, knownB l n = true → (n ∈ fr ↔ n ∈ fr')) : reachOf l b fr = reachOf l b fr' := by
  have one : ∀ {fr fr' : List Int}, (∀ n, knownB l n = true → n ∈ fr → n ∈ fr') → ∀ n, Reach l b fr n → Reach l b fr' n := by
    intro fr fr' h n hr
    induction hr with
    | start hn hk => exact .start (h _ hk hn) hk
    | step _ he hn hk ih => exact .step ih he hn hk
  refine strict_ext (reachOf_sorted _ _ _) (reachOf_sorted _ _ _) fun x => ?_
  rw [mem_reachOf, mem_reachOf]
  exact ⟨one (fun n hk => (h n hk).1) x, one (fun n hk => (h n hk).2) x⟩
set_option maxRecDepth 8000 in
set_option maxHeartbeats 4000000 in
theorem reached_ac (l : List Evt) (ids : List Int) (b : Bool) (hl : Fit l) (hs : ids.Pairwise (· < ·)) (hk : ∀ n ∈ ids, knownB l n = true) : AC Try.prog 42 [evs l, ints ids, B b] (ints (reachOf l b ids)) := by
  refine AC.of_body Try.func42 rfl rfl Try.ntmps42 (congrArg Array.toList Try.results42) (by simp) (pures3 (pure_evs _) (pure_ints _) (pure_B _)) (pureR_ints _) fun w S' => AWp.of_vc [] ?_
  have hll := hl.len
  have hm : l.length ≤ maxLen := by unfold maxLen; omega
  simp [go_sem]
  refine AWp.loop_vc [] (fun m s => ∃ k : Nat, k ≤ l.length ∧ m = l.length - k ∧ s.σ 0 = evs l ∧ s.σ 2 = B b ∧ s.σ 7 = I k ∧ s.σ 1 = ints (itR l b ids k)) l.length ⟨0, by simp [go_sem, itR]⟩ ?_
  rintro m s ⟨k, hk', rfl, h0, h2, h7, h1⟩
  by_cases hlt : k < l.length
  · have hil := itR_len (b := b) hs hk k
    have hsu : itR l b ids (k + 1) = sortedL (itR l b ids k ++ nextS l b (itR l b ids k)) := rfl
    generalize itR l b ids k = R at h1 hil hsu
    simp [go_sem, h0, h2, h7, h1, hlt]
    refine CallSem.pure (next_ac l R b hl (by omega)) (by simp [go_sem]) ?_
    have hnl := nextL_len hl b R
    have hnl2 : (nextS l b R).length ≤ (nextL l b R).length := sortedL_lenG _
    generalize nextS l b R = N at hsu hnl2 ⊢
    simp [go_sem, h0, h2, h7, h1, hlt]
    refine CallSem.pure (runion_ac R N (by omega) (by omega)) (by simp [go_sem]) ?_
    rw [← hsu]
    simp [go_sem, h0, h2, h7, h1, hlt, wrap_succ hlt hm]
    exact ⟨l.length - (k + 1), by omega, k + 1, by omega, rfl, rfl, rfl⟩
  · obtain rfl : k = l.length := (by omega)
    rw [itR_end hs hk] at h1
    simp [go_sem, h0, h2, h7, h1]
    refine PostR.ret ?_
    simp [go_sem]
theorem chain_start (l : List Evt) (ids : List Int) : reachOf l true (nextS l true (knownOf l ids)) = chainOf l ids := by
  unfold chainOf
  refine reachOf_congr fun n hk => ?_
  rw [mem_nextS]
  unfold firstOf
  rw [List.mem_flatMap]
  constructor
  · rintro ⟨_, m, hm, e, he, hn⟩
    exact ⟨m, (mem_knownOf.1 hm).1, by rw [he]; exact hn⟩
  · rintro ⟨m, hm, hn⟩
    cases hg : getE l m with
    | none => rw [hg] at hn; simp at hn
    | some e =>
      rw [hg] at hn
      exact ⟨hk, m, mem_knownOf.2 ⟨hm, by unfold knownB; rw [hg]; rfl⟩, e, hg, hn⟩
set_option maxRecDepth 8000 in
set_option maxHeartbeats 4000000 in
theorem rchain_ac (l : List Evt) (ids : List Int) (hl : Fit l) (hsz : ids.length ≤ 100000) : AC Try.prog 31 [evs l, ints ids] (ints (chainOf l ids)) := by
  refine AC.of_body Try.func31 rfl rfl Try.ntmps31 (congrArg Array.toList Try.results31) (by simp) (pures2 (pure_evs _) (pure_ints _)) (pureR_ints _) fun w S' => AWp.of_vc [] ?_
  have hll := hl.len
  have hkl := sorted_known_len (knownOf_sorted l ids) (fun n hn => (mem_knownOf.1 hn).2)
  have hs : (nextS l true (knownOf l ids)).Pairwise (· < ·) := (sortedL_sorted _).1
  have hk : ∀ n ∈ nextS l true (knownOf l ids), knownB l n = true := fun n hn => (mem_nextS.1 hn).1
  have e := chain_start l ids
  generalize chainOf l ids = C at e ⊢
  simp [go_sem]
  refine CallSem.pure (known_ac l ids hsz) (by simp [go_sem]) ?_
  generalize knownOf l ids = N at hs hk e hkl ⊢
  simp [go_sem]
  refine CallSem.pure (next_ac l N true hl (by omega)) (by simp [go_sem]) ?_
  generalize nextS l true N = M at hs hk e ⊢
  simp [go_sem]
  refine CallSem.pure (reached_ac l M true hl hs hk) (by simp [go_sem]) ?_
  rw [e]
  simp [go_sem]
  refine PostR.ret ?_
  simp [go_sem]
end Go.Proofs.Ytabjpmleboeimaa

-- part A0
namespace Go.Proofs.Ytabjpmleboeimaa
open Go Go.Abs
set_option linter.unusedSimpArgs false
theorem wrap_natE {k : Nat} (hm : k ≤ maxLen) : IntKind.i64.wrap (k : Int) = (k : Int) := wrap_i64 (by omega) (by unfold maxLen at hm; omega)
/-- Is an event of moderate size? -/
structure Mod (e : Evt) : Prop where
  a0 : e.prev.length ≤ 40
  a1 : e.auth.length ≤ 40
  a2 : e.content.allow.length ≤ 40
  a3 : e.content.deny.length ≤ 40
  a4 : e.content.levels.users.length ≤ 40
  a5 : e.content.levels.kinds.length ≤ 40
  b0 : e.room.length ≤ 2000
  b1 : e.sender.length ≤ 2000
  b2 : e.key.length ≤ 2000
  b3 : e.content.text.length ≤ 2000
  b4 : e.content.via.length ≤ 2000
  b5 : e.sig.server.length ≤ 2000
  allow : ∀ t ∈ e.content.allow, t.length ≤ 2000
  deny : ∀ t ∈ e.content.deny, t.length ≤ 2000
  users : ∀ t ∈ e.content.levels.users, t.user.length ≤ 2000
open Classical in
noncomputable def longOf (e : Evt) : Bool := decide (¬ Mod e)
open Classical in
theorem longOf_bad {e : Evt} (h : Mod e → False) : longOf e = true := by unfold longOf; exact decide_eq_true h
open Classical in
theorem longOf_good {e : Evt} (h : Mod e) : longOf e = false := by unfold longOf; exact decide_eq_false fun hn => hn h
theorem longOf_iff {e : Evt} : longOf e = false ↔ Mod e := ⟨fun h => Classical.byContradiction fun hn => (by rw [longOf_bad hn] at h; cases h), longOf_good⟩
theorem mem_below {α : Type} {l : List α} {P : α → Prop} (h : ∀ (j : Nat) x, j < l.length → l[j]? = some x → P x) : ∀ x ∈ l, P x := by
  intro x hx
  obtain ⟨j, hj, rfl⟩ := List.mem_iff_getElem.1 hx
  exact h j _ hj (List.getElem?_eq_getElem hj)
theorem below_step' {α : Type} {l : List α} {P : α → Prop} {k : Nat} (hk : k < l.length) (h : ∀ (j : Nat) x, j < k → l[j]? = some x → P x) (hp : P l[k]) : ∀ (j : Nat) x, j < k + 1 → l[j]? = some x → P x := by
  intro j x hj hx
  rcases Nat.lt_succ_iff_lt_or_eq.1 hj with hj | rfl
  · exact h j x hj hx
  · rw [List.getElem?_eq_getElem hk] at hx; cases hx; exact hp
set_option maxRecDepth 8000 in
set_option maxHeartbeats 4000000 in
theorem long_ac (e : Evt) : AC Try.prog 32 [ev e] (B (longOf e)) := by
  refine AC.of_body Try.func32 rfl rfl Try.ntmps32 (congrArg Array.toList Try.results32) (by simp) (pures1 (pure_ev _)) (pure_B _) fun w S' => AWp.of_vc [] ?_
  by_cases g0 : (40 : Int) < e.prev.length
  · have hb : longOf e = true := longOf_bad fun m => by have := m.a0; omega
    simp [go_sem, g0, hb]
    refine PostR.ret ?_
    simp [go_sem]
  by_cases g1 : (40 : Int) < e.auth.length
  · have hb : longOf e = true := longOf_bad fun m => by have := m.a1; omega
    simp [go_sem, g0, g1, hb]
    refine PostR.ret ?_
    simp [go_sem]
  by_cases g2 : (40 : Int) < e.content.allow.length
  · have hb : longOf e = true := longOf_bad fun m => by have := m.a2; omega
    simp [go_sem, g0, g1, g2, hb]
    refine PostR.ret ?_
    simp [go_sem]
  by_cases g3 : (40 : Int) < e.content.deny.length
  · have hb : longOf e = true := longOf_bad fun m => by have := m.a3; omega
    simp [go_sem, g0, g1, g2, g3, hb]
    refine PostR.ret ?_
    simp [go_sem]
  by_cases g4 : (40 : Int) < e.content.levels.users.length
  · have hb : longOf e = true := longOf_bad fun m => by have := m.a4; omega
    simp [go_sem, g0, g1, g2, g3, g4, hb]
    refine PostR.ret ?_
    simp [go_sem]
  by_cases g5 : (40 : Int) < e.content.levels.kinds.length
  · have hb : longOf e = true := longOf_bad fun m => by have := m.a5; omega
    simp [go_sem, g0, g1, g2, g3, g4, g5, hb]
    refine PostR.ret ?_
    simp [go_sem]
  by_cases t0 : (2000 : Int) < e.room.length
  · have hb : longOf e = true := longOf_bad fun m => by have := m.b0; omega
    simp [go_sem, g0, g1, g2, g3, g4, g5, t0, hb]
    refine PostR.ret ?_
    simp [go_sem]
  by_cases t1 : (2000 : Int) < e.sender.length
  · have hb : longOf e = true := longOf_bad fun m => by have := m.b1; omega
    simp [go_sem, g0, g1, g2, g3, g4, g5, t0, t1, hb]
    refine PostR.ret ?_
    simp [go_sem]
  by_cases t2 : (2000 : Int) < e.key.length
  · have hb : longOf e = true := longOf_bad fun m => by have := m.b2; omega
    simp [go_sem, g0, g1, g2, g3, g4, g5, t0, t1, t2, hb]
    refine PostR.ret ?_
    simp [go_sem]
  by_cases t3 : (2000 : Int) < e.content.text.length
  · have hb : longOf e = true := longOf_bad fun m => by have := m.b3; omega
    simp [go_sem, g0, g1, g2, g3, g4, g5, t0, t1, t2, t3, hb]
    refine PostR.ret ?_
    simp [go_sem]
  by_cases t4 : (2000 : Int) < e.content.via.length
  · have hb : longOf e = true := longOf_bad fun m => by have := m.b4; omega
    simp [go_sem, g0, g1, g2, g3, g4, g5, t0, t1, t2, t3, t4, hb]
    refine PostR.ret ?_
    simp [go_sem]
  by_cases t5 : (2000 : Int) < e.sig.server.length
  · have hb : longOf e = true := longOf_bad fun m => by have := m.b5; omega
    simp [go_sem, g0, g1, g2, g3, g4, g5, t0, t1, t2, t3, t4, t5, hb]
    refine PostR.ret ?_
    simp [go_sem]
  simp [go_sem, g0, g1, g2, g3, g4, g5, t0, t1, t2, t3, t4, t5]
  refine AWp.loop_vc [] (fun m s => ∃ k : Nat, k ≤ e.content.allow.length ∧ m = e.content.allow.length - k ∧ s.σ 3 = .rptr 3 1 0 0 ∧ s.ver 3 = 1 ∧ s.h 3 = .box (ctc e.content) ∧ s.σ 4 = I k ∧ ∀ (j : Nat) x, j < k → e.content.allow[j]? = some x → x.length ≤ 2000) e.content.allow.length ⟨0, by simp [go_sem]⟩ ?_
  rintro m s ⟨k, hk, rfl, sk, vk, bk, ik, yk⟩
  by_cases lk : k < e.content.allow.length
  · by_cases pk : (2000 : Int) < e.content.allow[k].length
    · have hb : longOf e = true := longOf_bad fun m => by have := m.allow _ (List.getElem_mem lk); omega
      simp [go_sem, sk, vk, bk, ik, lk, pk, hb]
      refine PostR.ret ?_
      simp [go_sem]
    · simp [go_sem, sk, vk, bk, ik, lk, pk, wrap_succ lk (show e.content.allow.length ≤ maxLen by unfold maxLen; omega)]
      exact ⟨e.content.allow.length - (k + 1), by omega, k + 1, by omega, rfl, rfl, below_step' lk yk (by omega)⟩
  have yk' : ∀ x ∈ e.content.allow, x.length ≤ 2000 := mem_below fun j x hj hx => yk j x (by omega) hx
  simp [go_sem, sk, vk, bk, ik, lk]
  refine AWp.loop_vc [] (fun m s => ∃ q : Nat, q ≤ e.content.deny.length ∧ m = e.content.deny.length - q ∧ s.σ 3 = .rptr 3 1 0 0 ∧ s.ver 3 = 1 ∧ s.h 3 = .box (ctc e.content) ∧ s.σ 5 = I q ∧ ∀ (j : Nat) x, j < q → e.content.deny[j]? = some x → x.length ≤ 2000) e.content.deny.length ⟨0, by simp [go_sem, sk, vk, bk]⟩ ?_
  rintro m s ⟨q, hq, rfl, sq, vq, bq, iq, yq⟩
  by_cases lq : q < e.content.deny.length
  · by_cases pq : (2000 : Int) < e.content.deny[q].length
    · have hb : longOf e = true := longOf_bad fun m => by have := m.deny _ (List.getElem_mem lq); omega
      simp [go_sem, sq, vq, bq, iq, lq, pq, hb]
      refine PostR.ret ?_
      simp [go_sem]
    · simp [go_sem, sq, vq, bq, iq, lq, pq, wrap_succ lq (show e.content.deny.length ≤ maxLen by unfold maxLen; omega)]
      exact ⟨e.content.deny.length - (q + 1), by omega, q + 1, by omega, rfl, rfl, below_step' lq yq (by omega)⟩
  have yq' : ∀ x ∈ e.content.deny, x.length ≤ 2000 := mem_below fun j x hj hx => yq j x (by omega) hx
  simp [go_sem, sq, vq, bq, iq, lq]
  refine AWp.loop_vc [] (fun m s => ∃ r : Nat, r ≤ e.content.levels.users.length ∧ m = e.content.levels.users.length - r ∧ s.σ 3 = .rptr 3 1 0 0 ∧ s.ver 3 = 1 ∧ s.h 3 = .box (ctc e.content) ∧ s.σ 6 = I r ∧ ∀ (j : Nat) x, j < r → e.content.levels.users[j]? = some x → x.user.length ≤ 2000) e.content.levels.users.length ⟨0, by simp [go_sem, sq, vq, bq]⟩ ?_
  rintro m s ⟨r, hr, rfl, sr, vr, br, ir, yr⟩
  by_cases lr : r < e.content.levels.users.length
  · by_cases pr : (2000 : Int) < e.content.levels.users[r].user.length
    · have hb : longOf e = true := longOf_bad fun m => by have := m.users _ (List.getElem_mem lr); omega
      simp [go_sem, sr, vr, br, ir, lr, pr, hb]
      refine PostR.ret ?_
      simp [go_sem]
    · simp [go_sem, sr, vr, br, ir, lr, pr, wrap_succ lr (show e.content.levels.users.length ≤ maxLen by unfold maxLen; omega)]
      exact ⟨e.content.levels.users.length - (r + 1), by omega, r + 1, by omega, rfl, rfl, below_step' lr yr (by omega)⟩
  have yr' : ∀ x ∈ e.content.levels.users, x.user.length ≤ 2000 := mem_below fun j x hj hx => yr j x (by omega) hx
  simp [go_sem, sr, vr, br, ir, lr]
  have hb : longOf e = false := longOf_good ⟨by omega, by omega, by omega, by omega, by omega, by omega, by omega, by omega, by omega, by omega, by omega, by omega, yk', yq', yr'⟩
  refine PostR.ret ?_
  simp [go_sem, hb]
open Classical in
noncomputable def greatOf (l : List Evt) (n : Nat) : Bool := decide (¬ (l.length ≤ n ∧ ∀ e ∈ l, Mod e))
open Classical in

theorem greatOf_iff {l : List Evt} {n : Nat} : greatOf l n = false ↔ l.length ≤ n ∧ ∀ e ∈ l, Mod e := by
  unfold greatOf
  constructor
  · intro h; exact Classical.byContradiction fun hn => by rw [decide_eq_true hn] at h; cases h
  · intro h; exact decide_eq_false fun hn => hn h
set_option maxRecDepth 8000 in
set_option maxHeartbeats 4000000 in
theorem great_ac (l : List Evt) : AC Try.prog 19 [evs l, I 14] (B (greatOf l 14)) := by
  refine AC.of_body Try.func19 rfl rfl Try.ntmps19 (congrArg Array.toList Try.results19) (by simp) (pures2 (pure_evs _) (pure_I _)) (pure_B _) fun w S' => AWp.of_vc [] ?_
  by_cases g : (14 : Int) < l.length
  · have hb : greatOf l 14 = true := by
      cases h : greatOf l 14 with
      | true => rfl
      | false => have := (greatOf_iff.1 h).1; omega
    simp [go_sem, g, hb]
    refine PostR.ret ?_
    simp [go_sem]
  simp [go_sem, g]
  refine AWp.loop_vc [] (fun m s => ∃ k : Nat, k ≤ l.length ∧ m = l.length - k ∧ s.σ 0 = evs l ∧ s.σ 5 = I k ∧ ∀ (j : Nat) x, j < k → l[j]? = some x → Mod x) l.length ⟨0, by simp [go_sem]⟩ ?_
  rintro m s ⟨k, hk, rfl, h0, h5, hyes⟩
  by_cases hlt : k < l.length
  · simp [go_sem, h0, h5, hlt]
    refine CallSem.pure (long_ac l[k]) (by simp [go_sem]) ?_
    cases hL : longOf l[k] with
    | true =>
      have hb : greatOf l 14 = true := by
        cases h : greatOf l 14 with
        | true => rfl
        | false => have := (greatOf_iff.1 h).2 _ (List.getElem_mem hlt); rw [longOf_good this] at hL; cases hL
      simp [go_sem]
      refine PostR.ret ?_
      simp [go_sem, hb]
    | false =>
      simp [go_sem, h0, h5, hlt, wrap_succ hlt (show l.length ≤ maxLen by unfold maxLen; omega)]
      exact ⟨l.length - (k + 1), by omega, k + 1, by omega, rfl, rfl, below_step' hlt hyes (longOf_iff.1 hL)⟩
  · have hb : greatOf l 14 = false := greatOf_iff.2 ⟨by omega, mem_below fun j x hj hx => hyes j x (by omega) hx⟩
    simp [go_sem, h0, h5, hlt]
    refine PostR.ret ?_
    simp [go_sem, hb]

end Go.Proofs.Ytabjpmleboeimaa
