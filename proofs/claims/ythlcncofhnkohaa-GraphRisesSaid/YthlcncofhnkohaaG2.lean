/- Contracts of chapter 09: reach, Ancestors, Chain, Before. No condition. -/
import Derived.Test.YthlcncofhnkohaaG1
namespace Go.Proofs.Ythlcncofhnkohaa
open Go Go.Abs
set_option linter.unusedSimpArgs false
def refsOf (b : Bool) (e : Evt) : List Int := if b = true then e.auth else e.prev
/-- What is reached from some ids by references to known events. -/
inductive Reach (l : List Evt) (b : Bool) (fr : List Int) : Int → Prop
  | start {n : Int} : n ∈ fr → knownB l n = true → Reach l b fr n
  | step {m n : Int} {e : Evt} : Reach l b fr m → getE l m = some e → n ∈ refsOf b e → knownB l n = true → Reach l b fr n
theorem Reach.known {l : List Evt} {b : Bool} {fr : List Int} {n : Int} (h : Reach l b fr n) : knownB l n = true := by cases h <;> assumption
theorem known_id {l : List Evt} {n : Int} (h : knownB l n = true) : n ∈ l.map (·.id) := by
  unfold knownB getE at h
  obtain ⟨e, he⟩ := Option.isSome_iff_exists.1 h
  exact List.mem_map.2 ⟨e, List.mem_of_find?_eq_some he, by simpa using List.find?_some he⟩
open Classical in
noncomputable def reachOf (l : List Evt) (b : Bool) (fr : List Int) : List Int := sortedL ((l.map (·.id)).filter fun n => decide (Reach l b fr n))
theorem reachOf_sorted (l : List Evt) (b : Bool) (fr : List Int) : (reachOf l b fr).Pairwise (· < ·) := (sortedL_sorted _).1
theorem mem_reachOf {l : List Evt} {b : Bool} {fr : List Int} {n : Int} : n ∈ reachOf l b fr ↔ Reach l b fr n := by
  unfold reachOf
  rw [(sortedL_sorted _).2, List.mem_filter]
  exact ⟨fun h => by simpa using h.2, fun h => ⟨known_id h.known, by simpa using h⟩⟩
theorem nodup_len : ∀ {a b : List Int}, a.Nodup → (∀ x ∈ a, x ∈ b) → a.length ≤ b.length
  | [], b, _, _ => Nat.zero_le _
  | x :: a, b, h, hs => by
    rw [List.nodup_cons] at h
    have hx := hs x (List.mem_cons_self ..)
    have ih := nodup_len (a := a) (b := b.erase x) h.2 fun y hy => (List.mem_erase_of_ne fun he => h.1 (by rw [← he]; exact hy)).2 (hs y (List.mem_cons_of_mem _ hy))
    rw [List.length_erase_of_mem hx] at ih
    have : 0 < b.length := List.length_pos_of_mem hx
    simp only [List.length_cons]; omega
theorem reachOf_len (l : List Evt) (b : Bool) (fr : List Int) : (reachOf l b fr).length ≤ l.length := by
  have := nodup_len (a := reachOf l b fr) (b := l.map (·.id)) ((reachOf_sorted l b fr).imp fun h => Int.ne_of_lt h) fun x hx => known_id (mem_reachOf.1 hx).known
  simpa using this

structure RInv (l : List Evt) (b : Bool) (fr next : List Int) (k : Nat) (out t : List Int) (o0 : Nat) : Prop where
  nd : out.Nodup
  mem : ∀ n ∈ out, Reach l b fr n
  more : ∀ n ∈ t, knownB l n = true → Reach l b fr n
  nextR : ∀ n ∈ next, knownB l n = true → Reach l b fr n
  start : ∀ n ∈ fr, knownB l n = true → n ∈ out ∨ n ∈ next.drop k
  closed : ∀ m ∈ out, ∀ e, getE l m = some e → ∀ n ∈ refsOf b e, knownB l n = true → n ∈ out ∨ n ∈ next.drop k ∨ n ∈ t
  grew : t ≠ [] → o0 < out.length
  mono : o0 ≤ out.length
  short : t.length ≤ 40 * out.length
section
variable {l : List Evt} {b : Bool} {fr next out t : List Int} {k o0 : Nat}
theorem RInv.first : RInv l b fr fr 0 [] [] 0 :=
  ⟨List.nodup_nil, (fun _ h => (by cases h)), (fun _ h => (by cases h)), (fun _ h hk => .start h hk), (fun _ h _ => .inr h), (fun _ h => (by cases h)), (fun h => absurd rfl h), Nat.le_refl _, Nat.le_refl _⟩
theorem RInv.len (h : RInv l b fr next k out t o0) : out.length ≤ l.length := by
  have := nodup_len (b := l.map (·.id)) h.nd fun x hx => known_id (h.mem x hx).known
  simpa using this
theorem RInv.skip (h : RInv l b fr next k out t o0) (hk : k < next.length) (hno : knownB l next[k] = true → next[k] ∈ out) : RInv l b fr next (k + 1) out t o0 := by
  have hd : next.drop k = next[k] :: next.drop (k + 1) := List.drop_eq_getElem_cons hk
  refine ⟨h.nd, h.mem, h.more, h.nextR, fun n hn hkn => ?_, fun m hm e he n hn hkn => ?_, h.grew, h.mono, h.short⟩
  · rcases h.start n hn hkn with g | g
    · exact .inl g
    · rw [hd] at g
      rcases List.mem_cons.1 g with rfl | g
      · exact .inl (hno hkn)
      · exact .inr g
  · rcases h.closed m hm e he n hn hkn with g | g | g
    · exact .inl g
    · rw [hd] at g
      rcases List.mem_cons.1 g with rfl | g
      · exact .inl (hno hkn)
      · exact .inr (.inl g)
    · exact .inr (.inr g)
theorem RInv.add (h : RInv l b fr next k out t o0) (hk : k < next.length) {e : Evt} (hg : getE l next[k] = some e) (hn : next[k] ∉ out) (h40 : (refsOf b e).length ≤ 40) : RInv l b fr next (k + 1) (out ++ [next[k]]) (t ++ refsOf b e) o0 := by
  have hd : next.drop k = next[k] :: next.drop (k + 1) := List.drop_eq_getElem_cons hk
  have hkn : knownB l next[k] = true := by unfold knownB; rw [hg]; rfl
  have hR := h.nextR _ (List.getElem_mem hk) hkn
  refine ⟨?_, ?_, ?_, h.nextR, ?_, ?_, ?_, ?_, ?_⟩
  · rw [List.nodup_append]
    refine ⟨h.nd, by simp, fun a ha c hc => ?_⟩
    simp only [List.mem_singleton] at hc
    subst hc; exact fun he => hn (he ▸ ha)
  · intro n hm
    rcases List.mem_append.1 hm with hm | hm
    · exact h.mem n hm
    · simp only [List.mem_singleton] at hm; subst hm; exact hR
  · intro n hm hkn2
    rcases List.mem_append.1 hm with hm | hm
    · exact h.more n hm hkn2
    · exact .step hR hg hm hkn2
  · intro n hm hkn2
    rcases h.start n hm hkn2 with g | g
    · exact .inl (List.mem_append_left _ g)
    · rw [hd] at g
      rcases List.mem_cons.1 g with rfl | g
      · exact .inl (by simp)
      · exact .inr g
  · intro m hm e2 he2 n hn2 hkn2
    rcases List.mem_append.1 hm with hm | hm
    · rcases h.closed m hm e2 he2 n hn2 hkn2 with g | g | g
      · exact .inl (List.mem_append_left _ g)
      · rw [hd] at g
        rcases List.mem_cons.1 g with rfl | g
        · exact .inl (by simp)
        · exact .inr (.inl g)
      · exact .inr (.inr (List.mem_append_left _ g))
    · simp only [List.mem_singleton] at hm; subst hm
      rw [hg] at he2; cases he2
      exact .inr (.inr (List.mem_append_right _ hn2))
  · intro _; have := h.mono; simp only [List.length_append, List.length_cons, List.length_nil]; omega
  · have := h.mono; simp only [List.length_append]; omega
  · have := h.short; simp only [List.length_append, List.length_cons, List.length_nil]; omega
theorem RInv.turn (h : RInv l b fr next k out t o0) (hk : ¬ k < next.length) : RInv l b fr t 0 out [] out.length := by
  have hd : next.drop k = [] := List.drop_eq_nil_of_le (by omega)
  refine ⟨h.nd, h.mem, fun _ h => (by cases h), h.more, fun n hn hkn => ?_, fun m hm e he n hn hkn => ?_, fun h => absurd rfl h, Nat.le_refl _, Nat.zero_le _⟩
  · rcases h.start n hn hkn with g | g
    · exact .inl g
    · rw [hd] at g; cases g
  · rcases h.closed m hm e he n hn hkn with g | g | g
    · exact .inl g
    · rw [hd] at g; cases g
    · exact .inr (.inl g)
theorem RInv.mem_iff (h : RInv l b fr [] 0 out [] o0) (n : Int) : n ∈ out ↔ Reach l b fr n := by
  refine ⟨h.mem n, fun hr => ?_⟩
  induction hr with
  | start hn hkn => exact (h.start _ hn hkn).elim id fun g => by cases g
  | step _ hg hn hkn ih =>
    rcases h.closed _ ih _ hg _ hn hkn with g | g | g
    · exact g
    · cases g
    · cases g
theorem RInv.result (h : RInv l b fr [] 0 out [] o0) : sortedSet out = reachOf l b fr :=
  strict_ext (sortedSet_sorted out).1 (reachOf_sorted l b fr) fun x => by rw [(sortedSet_sorted out).2, h.mem_iff, mem_reachOf]
def rmeas (l : List Evt) (out next : List Int) : Nat := 2 * (l.length - out.length) + (if next = [] then 0 else 1)
theorem RInv.less {out0 : List Int} (h : RInv l b fr next k out t out0.length) (hne : next ≠ []) : rmeas l out t < rmeas l out0 next := by
  have h1 := h.mono
  have h2 := h.len
  unfold rmeas
  rw [if_neg hne]
  by_cases g : t = []
  · rw [if_pos g]; omega
  · have := h.grew g; rw [if_neg g]; omega
end
/-- The map of what was found. -/
def FoundM (es : Array MapEntry) (out : List Int) : Prop := intM es = true ∧ ∀ n, mget es n = if n ∈ out then some (.bool true) else none
def LevelM (es : Array MapEntry) (out : List Int) : Prop := intM es = true ∧ ∀ n, n ∉ out → mget es n = none
theorem FoundM.nil : FoundM #[] [] := ⟨rfl, fun n => rfl⟩
theorem LevelM.nil (out : List Int) : LevelM #[] out := ⟨rfl, fun n _ => rfl⟩
theorem FoundM.add {es : Array MapEntry} {out : List Int} (h : FoundM es out) (clk : Nat) (n : Int) : FoundM (mput es clk n (.bool true)).1 (out ++ [n]) := by
  refine ⟨q_mput_int _ _ _ _ h.1, fun m => ?_⟩
  rw [q_mput_get, h.2]
  by_cases g : n = m
  · subst g; simp
  · have : ¬ m = n := fun h => g h.symm
    rw [if_neg g]
    simp only [List.mem_append, List.mem_singleton, this, or_false]
theorem LevelM.add {es : Array MapEntry} {out : List Int} (h : LevelM es out) (clk : Nat) (n : Int) (v : Value) : LevelM (mput es clk n v).1 (out ++ [n]) := by
  refine ⟨q_mput_int _ _ _ _ h.1, fun m hm => ?_⟩
  simp only [List.mem_append, List.mem_singleton, not_or] at hm
  rw [q_mput_get, if_neg (fun g => hm.2 g.symm), h.2 m hm.1]
set_option maxRecDepth 8000 in
set_option maxHeartbeats 4000000 in
theorem reach_ac (l : List Evt) (fr : List Int) (f : FuncId) (b : Bool) (hf : ∀ e, AC Try.prog f [ev e] (ints (refsOf b e))) (hl : l.length ≤ 1000) (hfr : fr.length ≤ 1000000000) (h40 : ∀ e ∈ l, (refsOf b e).length ≤ 40) : AC Try.prog 45 [evs l, ints fr, .fn (.func f) [] []] (ints (reachOf l b fr)) := by
  refine AC.of_body Try.func45 rfl rfl Try.ntmps45 (congrArg Array.toList Try.results45) (by simp) (pures3 (pure_evs _) (pure_ints _) (pure_fn (fun _ h => by cases h) (fun _ h => by cases h))) (pureR_ints _) fun w S' => AWp.bound 1 rfl fun hlen => AWp.of_vc [] ?_
  rw [ints_len] at hlen
  simp [go_sem]
  refine CallSem.pure (index_ac l) (by simp [go_sem]) ?_
  simp [go_sem]
  refine AWp.ownNil 10 3 1 (by simp [go_sem]) ?_
  refine AWp.loop_vcF [] [12] (fun m s => ∃ (out next : List Int) (v : Nat) (fs : Array MapEntry) (fc : Nat) (ls : Array MapEntry) (lc : Nat), m = rmeas l out next ∧ s.σ 0 = evs l ∧ s.σ 2 = .fn (.func f) [] [] ∧ s.σ 7 = idxAV l ∧ s.σ 8 = .ref 19 1 ∧ s.σ 9 = .ref 20 1 ∧ s.σ 11 = ints next ∧ s.σ 10 = .ref 10 v ∧
    s.ver 10 = v ∧ s.ver 19 = 1 ∧ s.ver 20 = 1 ∧ s.h 10 = .arr 3 1 (out.map I) ∧ s.h 19 = .map fs fc ∧ s.h 20 = .map ls lc ∧ FoundM fs out ∧ LevelM ls out ∧ next.length ≤ 1000000000 ∧ RInv l b fr next 0 out [] out.length) (rmeas l [] fr) ⟨[], fr, 1, #[], 0, #[], 0, by simp [go_sem, FoundM.nil, LevelM.nil, RInv.first, hfr]⟩ ?_
  rintro m s ⟨out, next, v, fs, fc, ls, lc, hm, h0, h2, h7, h8, h9, h11, h10, hv, hv19, hv20, hh, hh19, hh20, hF, hL, hnx, hR⟩
  by_cases hn : next = []
  · subst hn
    have hol := hR.len
    simp [go_sem, h0, h2, h7, h8, h9, h11, h10, hv, hv19, hv20, hh, hh19, hh20]
    refine CallSem.freeze 10 ?_
    simp [go_sem, h0, h2, h7, h8, h9, h11, h10, hv, hv19, hv20, hh, hh19, hh20]
    refine CallSem.pure (numSorted_ac out (by omega)) (by simp [go_sem]) ?_
    simp [go_sem]
    refine PostR.ret ?_
    simp [go_sem, hR.result]
  · have hpos : 0 < next.length := List.length_pos_iff.2 hn
    have hnm : next.length ≤ maxLen := by unfold maxLen; omega
    simp [go_sem, h0, h2, h7, h8, h9, h11, h10, hv, hv19, hv20, hh, hh19, hh20, hpos]
    refine AWp.ownNil 12 3 1 (by simp [go_sem]) ?_
    refine AWp.loop_vc [] (fun m s => ∃ (k : Nat) (o t : List Int) (v u : Nat) (fs : Array MapEntry) (fc : Nat) (ls : Array MapEntry) (lc : Nat), m = next.length - k ∧ k ≤ next.length ∧ s.σ 0 = evs l ∧ s.σ 2 = .fn (.func f) [] [] ∧ s.σ 7 = idxAV l ∧ s.σ 8 = .ref 19 1 ∧ s.σ 9 = .ref 20 1 ∧ s.σ 10 = .ref 10 v ∧ s.σ 12 = .ref 12 u ∧ s.σ 26 = ints next ∧ s.σ 27 = I next.length ∧ s.σ 28 = I k ∧
      s.ver 10 = v ∧ s.ver 12 = u ∧ s.ver 19 = 1 ∧ s.ver 20 = 1 ∧ s.h 10 = .arr 3 1 (o.map I) ∧ s.h 12 = .arr 3 1 (t.map I) ∧ s.h 19 = .map fs fc ∧ s.h 20 = .map ls lc ∧ FoundM fs o ∧ LevelM ls o ∧ RInv l b fr next k o t out.length) next.length ⟨0, out, [], v, s.ver 12 + 1, fs, fc, #[], lc, by simp [go_sem, h0, h2, h7, h8, h9, h10, hv, hv19, hv20, hh, hh19, hF, LevelM.nil, hR]⟩ ?_
    subst hm
    clear h0 h2 h7 h8 h9 h11 h10 hv hv19 hv20 hh hh19 hh20 hF hL fs fc ls lc v hR
    rintro m s ⟨k, o, t, v, u, fs, fc, ls, lc, rfl, hk, h0, h2, h7, h8, h9, h10, h12, h26, h27, h28, hv, hu, hv19, hv20, hh, hhu, hh19, hh20, hF, hL, hR⟩
    have hol := hR.len
    have htl := hR.short
    by_cases hlt : k < next.length
    · rcases idx_get l next[k] with ⟨hg, hm⟩ | ⟨j, hj, hg, hm⟩
      · simp [go_sem, h0, h2, h7, h8, h9, h10, h12, h26, h27, h28, hv, hu, hv19, hv20, hh, hhu, hh19, hh20, hlt, hm, wrap_succ hlt hnm]
        exact ⟨next.length - (k + 1), by omega, k + 1, rfl, by omega, rfl, o, rfl, t, rfl, hF, hL, hR.skip hlt (fun h => by unfold knownB at h; rw [hg] at h; cases h)⟩
      · by_cases hin : next[k] ∈ o
        · have hf1 : mget fs next[k] = some (.bool true) := by rw [hF.2, if_pos hin]
          have hf2 := hF.1
          simp [go_sem, h0, h2, h7, h8, h9, h10, h12, h26, h27, h28, hv, hu, hv19, hv20, hh, hhu, hh19, hh20, hlt, hm, hf1, hf2, wrap_succ hlt hnm]
          exact ⟨next.length - (k + 1), by omega, k + 1, rfl, by omega, rfl, o, rfl, t, rfl, hF, hL, hR.skip hlt (fun _ => hin)⟩
        · have hf1 : mget fs next[k] = none := by rw [hF.2, if_neg hin]
          have hf2 := hF.1
          have hl1 : mget ls next[k] = none := hL.2 _ hin
          have hl2 := hL.1
          have hr40 := h40 l[j] (List.getElem_mem hj)
          have hadd := hR.add hlt hg hin hr40
          have hF' := hF.add fc next[k]
          have hL' := hL.add lc next[k] (.bool true)
          have hal := hadd.len
          have hat := hadd.short
          simp only [List.length_append, List.length_cons, List.length_nil] at hal hat
          simp [go_sem, h0, h2, h7, h8, h9, h10, h12, h26, h27, h28, hv, hu, hv19, hv20, hh, hhu, hh19, hh20, hlt, hj, hm, hf1, hf2, hl1, hl2, wrap_succ hlt hnm]
          refine ⟨by omega, ?_⟩
          refine CallSem.pure (hf l[j]) (by simp [go_sem]) ?_
          simp [go_sem, h0, h2, h7, h8, h9, h10, h12, h26, h27, h28, hv, hu, hv19, hv20, hh, hhu, hh19, hh20, hlt, hj, hm, hf1, hf2, hl1, hl2, wrap_succ hlt hnm]
          exact ⟨⟨by omega, by omega⟩, next.length - (k + 1), by omega, k + 1, rfl, by omega, rfl, o ++ [next[k]], by simp [I], t ++ refsOf b l[j], by simp, hF', hL', hadd⟩
    · have hless := hR.less hn
      have hturn := hR.turn hlt
      simp [go_sem, h0, h2, h7, h8, h9, h10, h12, h26, h27, h28, hv, hu, hv19, hv20, hh, hhu, hh19, hh20, hlt]
      exact ⟨_, hless, o, t, rfl, rfl, rfl, hF, hL, by omega, hturn⟩
/-- Few events, with few references. -/
structure Fit (l : List Evt) : Prop where
  len : l.length ≤ 14
  prev : ∀ e ∈ l, e.prev.length ≤ 40
  auth : ∀ e ∈ l, e.auth.length ≤ 40
theorem Fit.refs {l : List Evt} (h : Fit l) (b : Bool) : ∀ e ∈ l, (refsOf b e).length ≤ 40 := fun e he => by
  cases b
  · exact h.prev e he
  · exact h.auth e he
set_option maxRecDepth 8000 in
set_option maxHeartbeats 4000000 in
theorem ancC_ac (e : Evt) : AC Try.prog 46 [ev e] (ints (refsOf false e)) := by
  refine AC.of_body Try.func46 rfl rfl Try.ntmps46 (congrArg Array.toList Try.results46) (by simp) (pures1 (pure_ev _)) (pureR_ints _) fun w S' => AWp.of_vc [] ?_
  simp [go_sem]
  refine PostR.ret ?_
  simp [go_sem, refsOf]
set_option maxRecDepth 8000 in
set_option maxHeartbeats 4000000 in
theorem chainC_ac (e : Evt) : AC Try.prog 49 [ev e] (ints (refsOf true e)) := by
  refine AC.of_body Try.func49 rfl rfl Try.ntmps49 (congrArg Array.toList Try.results49) (by simp) (pures1 (pure_ev _)) (pureR_ints _) fun w S' => AWp.of_vc [] ?_
  simp [go_sem]
  refine PostR.ret ?_
  simp [go_sem, refsOf]
set_option maxRecDepth 8000 in
set_option maxHeartbeats 4000000 in
theorem anc_ac (l : List Evt) (ids : List Int) (hl : Fit l) (hi : ids.length ≤ 1000000000) : AC Try.prog 22 [evs l, ints ids] (ints (reachOf l false ids)) := by
  refine AC.of_body Try.func22 rfl rfl Try.ntmps22 (congrArg Array.toList Try.results22) (by simp) (pures2 (pure_evs _) (pure_ints _)) (pureR_ints _) fun w S' => AWp.of_vc [] ?_
  have hll := hl.len
  simp [go_sem]
  refine CallSem.pure (reach_ac l ids _ false ancC_ac (by omega) hi (hl.refs false)) (by simp [go_sem]) ?_
  simp [go_sem]
  refine PostR.ret ?_
  simp [go_sem]
def firstOf (l : List Evt) (ids : List Int) : List Int := ids.flatMap fun n => ((getE l n).map (·.auth)).getD []
theorem firstOf_succ {l : List Evt} {ids : List Int} {k : Nat} (h : k < ids.length) : firstOf l (ids.take (k + 1)) = firstOf l (ids.take k) ++ ((getE l ids[k]).map (·.auth)).getD [] := by
  unfold firstOf
  rw [List.take_succ_eq_append_getElem h, List.flatMap_append]; simp
theorem firstOf_len {l : List Evt} (hl : Fit l) : ∀ ids : List Int, (firstOf l ids).length ≤ 40 * ids.length
  | [] => Nat.le_refl _
  | n :: ids => by
    have ih := firstOf_len hl ids
    have : firstOf l (n :: ids) = ((getE l n).map (·.auth)).getD [] ++ firstOf l ids := by simp [firstOf]
    rw [this, List.length_append, List.length_cons]
    have : (((getE l n).map (·.auth)).getD []).length ≤ 40 := by
      cases hg : getE l n with
      | none => simp
      | some e => exact hl.auth e (List.mem_of_find?_eq_some hg)
    omega
noncomputable def chainOf (l : List Evt) (ids : List Int) : List Int := reachOf l true (firstOf l ids)
set_option maxRecDepth 8000 in
set_option maxHeartbeats 4000000 in
theorem chain_ac (l : List Evt) (ids : List Int) (hl : Fit l) (hi : ids.length ≤ 1000000) : AC Try.prog 24 [evs l, ints ids] (ints (chainOf l ids)) := by
  refine AC.of_body Try.func24 rfl rfl Try.ntmps24 (congrArg Array.toList Try.results24) (by simp) (pures2 (pure_evs _) (pure_ints _)) (pureR_ints _) fun w S' => AWp.of_vc [] ?_
  have hll := hl.len
  have hfl := firstOf_len hl ids
  have hm : ids.length ≤ maxLen := by unfold maxLen; omega
  simp [go_sem]
  refine CallSem.pure (index_ac l) (by simp [go_sem]) ?_
  simp [go_sem]
  refine AWp.ownNil 6 3 1 (by simp [go_sem]) ?_
  refine AWp.loop_vc [] (fun m s => ∃ (k v : Nat), m = ids.length - k ∧ k ≤ ids.length ∧ s.σ 0 = evs l ∧ s.σ 5 = idxAV l ∧ s.σ 6 = .ref 6 v ∧ s.σ 13 = ints ids ∧ s.σ 14 = I ids.length ∧ s.σ 15 = I k ∧ s.ver 6 = v ∧ s.h 6 = .arr 3 1 ((firstOf l (ids.take k)).map I)) ids.length ⟨0, 1, by simp [go_sem, firstOf]⟩ ?_
  rintro m s ⟨k, v, rfl, hk, h0, h5, h6, h13, h14, h15, hv, hh⟩
  by_cases hlt : k < ids.length
  · have hsu := firstOf_succ (l := l) hlt
    have hkl := firstOf_len hl (ids.take k)
    rw [List.length_take] at hkl
    generalize firstOf l (ids.take k) = X at hh hsu hkl
    rcases idx_get l ids[k] with ⟨hg, hm2⟩ | ⟨j, hj, hg, hm2⟩
    · rw [hg] at hsu
      simp [go_sem, h0, h5, h6, h13, h14, h15, hv, hh, hlt, hm2, wrap_succ hlt hm]
      exact ⟨ids.length - (k + 1), by omega, k + 1, rfl, by omega, rfl, by rw [hsu]; simp⟩
    · rw [hg] at hsu
      have h40 := hl.auth l[j] (List.getElem_mem hj)
      simp [go_sem, h0, h5, h6, h13, h14, h15, hv, hh, hlt, hj, hm2, wrap_succ hlt hm]
      exact ⟨⟨by omega, by omega⟩, ids.length - (k + 1), by omega, k + 1, rfl, by omega, rfl, by rw [hsu]; simp⟩
  · rw [List.take_of_length_le (by omega)] at hh
    simp [go_sem, h0, h5, h6, h13, h14, h15, hv, hh, hlt]
    refine CallSem.freeze 6 ?_
    simp [go_sem, h0, h5, h6, h13, h14, h15, hv, hh, hlt]
    refine CallSem.pure (reach_ac l (firstOf l ids) _ true chainC_ac (by omega) (by omega) (hl.refs true)) (by simp [go_sem]) ?_
    simp [go_sem]
    refine PostR.ret ?_
    simp [go_sem, chainOf]
noncomputable def beforeOf (l : List Evt) (a b : Int) : Bool := !(a == b) && (reachOf l false [b]).contains a
set_option maxRecDepth 8000 in
set_option maxHeartbeats 4000000 in
theorem before_ac (l : List Evt) (a b : Int) (hl : Fit l) : AC Try.prog 28 [evs l, I a, I b] (B (beforeOf l a b)) := by
  refine AC.of_body Try.func28 rfl rfl Try.ntmps28 (congrArg Array.toList Try.results28) (by simp) (pures3 (pure_evs _) (pure_I _) (pure_I _)) (pure_B _) fun w S' => AWp.of_vc [] ?_
  by_cases g : a = b
  · have hb : beforeOf l a b = false := by unfold beforeOf; rw [g]; simp
    rw [g] at hb
    simp [go_sem, g]
    refine PostR.ret ?_
    simp [go_sem, hb]
  · have hb : beforeOf l a b = (reachOf l false [b]).contains a := by unfold beforeOf; simp [g]
    simp [go_sem, g]
    refine CallSem.pure (anc_ac l [b] hl (by simp)) (by simp [go_sem]) ?_
    generalize hR : reachOf l false [b] = R at hb ⊢
    simp [go_sem, g]
    refine CallSem.pure (numHas_ac R a) (by simp [go_sem]) ?_
    rw [← hb]
    simp [go_sem, g]
    refine PostR.ret ?_
    simp [go_sem]
end Go.Proofs.Ythlcncofhnkohaa
