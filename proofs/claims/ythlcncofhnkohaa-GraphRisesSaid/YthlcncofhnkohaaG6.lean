/- Contracts of chapter 09: the reference's Roots, next, known, reached, Ancestors, Chain, Before. No condition. -/
import Derived.Test.YthlcncofhnkohaaG5
namespace Go.Proofs.Ythlcncofhnkohaa
open Go Go.Abs
set_option linter.unusedSimpArgs false
set_option maxRecDepth 8000 in
set_option maxHeartbeats 4000000 in
theorem rroots_ac (l : List Evt) (hl : l.length ≤ 1000) : AC Try.prog 16 [evs l] (ints (sortedL (rootsOf l))) := by
  refine AC.of_body Try.func16 rfl rfl Try.ntmps16 (congrArg Array.toList Try.results16) (by simp) (pures1 (pure_evs _)) (pureR_ints _) fun w S' => AWp.of_vc [] ?_
  have hm : l.length ≤ maxLen := by unfold maxLen; omega
  simp [go_sem]
  refine AWp.loop_vc [] (fun m s => ∃ k : Nat, k ≤ l.length ∧ m = l.length - k ∧ s.σ 0 = evs l ∧ s.σ 4 = I k ∧ s.σ 3 = ints (sortedL (rootsOf (l.take k)))) l.length ⟨0, by simp [go_sem, rootsOf, sortedL]⟩ ?_
  rintro m s ⟨k, hk, rfl, h0, h4, h3⟩
  by_cases hlt : k < l.length
  · have hsu := rootsOf_succ hlt
    have hrl := rootsOf_len (l.take k)
    rw [List.length_take] at hrl
    generalize rootsOf (l.take k) = X at h3 hsu hrl
    have hsl := sortedL_lenG X
    by_cases g : l[k].prev = []
    · rw [if_pos g] at hsu
      simp [go_sem, h0, h4, h3, hlt, g]
      refine CallSem.pure (put_ac (sortedL X) l[k].id (by omega)) (by simp [go_sem]) ?_
      rw [← sortedL_snoc, ← hsu]
      simp [go_sem, h0, h4, h3, hlt, g, wrap_succ hlt hm]
      exact ⟨l.length - (k + 1), by omega, k + 1, by omega, rfl, rfl, rfl⟩
    · rw [if_neg g] at hsu
      simp [go_sem, h0, h4, h3, hlt, g, wrap_succ hlt hm]
      exact ⟨l.length - (k + 1), by omega, k + 1, by omega, rfl, rfl, by rw [hsu]; simp⟩
  · rw [List.take_of_length_le (by omega)] at h3
    simp [go_sem, h0, h4, h3, hlt]
    refine PostR.ret ?_
    simp [go_sem]
def nextL (l : List Evt) (b : Bool) (ids : List Int) : List Int := ids.flatMap fun n => (refsOf b ((getE l n).getD evZ)).filter (knownB l)
def nextS (l : List Evt) (b : Bool) (ids : List Int) : List Int := sortedL (nextL l b ids)
theorem nextL_succ {l : List Evt} {b : Bool} {ids : List Int} {k : Nat} (h : k < ids.length) : nextL l b (ids.take (k + 1)) = nextL l b (ids.take k) ++ (refsOf b ((getE l ids[k]).getD evZ)).filter (knownB l) := by
  unfold nextL; rw [List.take_succ_eq_append_getElem h, List.flatMap_append]; simp
theorem refsZ_len {l : List Evt} (hl : Fit l) (b : Bool) (n : Int) : (refsOf b ((getE l n).getD evZ)).length ≤ 40 := by
  cases hg : getE l n with
  | none => cases b <;> simp [refsOf, evZ]
  | some e => exact hl.refs b e (List.mem_of_find?_eq_some hg)
theorem nextL_len {l : List Evt} (hl : Fit l) (b : Bool) : ∀ ids : List Int, (nextL l b ids).length ≤ 40 * ids.length
  | [] => Nat.le_refl _
  | n :: ids => by
    have ih := nextL_len hl b ids
    have h1 : nextL l b (n :: ids) = (refsOf b ((getE l n).getD evZ)).filter (knownB l) ++ nextL l b ids := by simp [nextL]
    rw [h1, List.length_append, List.length_cons]
    have h2 := List.length_filter_le (knownB l) (refsOf b ((getE l n).getD evZ))
    have h3 := refsZ_len hl b n
    omega
theorem filter_snoc {p : Int → Bool} {a : List Int} {q : Nat} (h : q < a.length) (X : List Int) : X ++ (a.take (q + 1)).filter p = (X ++ (a.take q).filter p) ++ if p a[q] = true then [a[q]] else [] := by
  rw [filter_take3 p a q h, List.append_assoc]
theorem if_auth (b : Bool) (e : Evt) : (if b = true then ints e.auth else ints e.prev) = ints (refsOf b e) := by cases b <;> rfl
set_option maxRecDepth 8000 in
set_option maxHeartbeats 4000000 in
theorem next_ac (l : List Evt) (ids : List Int) (b : Bool) (hl : Fit l) (hsz : ids.length ≤ 1000) : AC Try.prog 50 [evs l, ints ids, B b] (ints (nextS l b ids)) := by
  refine AC.of_body Try.func50 rfl rfl Try.ntmps50 (congrArg Array.toList Try.results50) (by simp) (pures3 (pure_evs _) (pure_ints _) (pure_B _)) (pureR_ints _) fun w S' => AWp.of_vc [] ?_
  have hm : ids.length ≤ maxLen := by unfold maxLen; omega
  unfold nextS
  simp [go_sem]
  refine AWp.loop_vc [] (fun m s => ∃ k : Nat, k ≤ ids.length ∧ m = ids.length - k ∧ s.σ 0 = evs l ∧ s.σ 1 = ints ids ∧ s.σ 2 = B b ∧ s.σ 8 = I k ∧ s.σ 7 = ints (sortedL (nextL l b (ids.take k)))) ids.length ⟨0, by simp [go_sem, nextL, sortedL]⟩ ?_
  rintro m s ⟨k, hk, rfl, h0, h1, h2, h8, h7⟩
  by_cases hlt : k < ids.length
  · have hsu := nextL_succ (l := l) (b := b) hlt
    have hnl := nextL_len hl b (ids.take k)
    rw [List.length_take] at hnl
    have h40 := refsZ_len hl b ids[k]
    generalize nextL l b (ids.take k) = X at h7 hsu hnl
    simp [go_sem, h0, h1, h2, h8, h7, hlt]
    refine CallSem.pure (rgetE_ac l ids[k]) (by simp [go_sem]) ?_
    unfold optE
    generalize (getE l ids[k]).isSome = bb
    generalize (getE l ids[k]).getD evZ = e at hsu h40
    have hrm : (refsOf b e).length ≤ maxLen := by unfold maxLen; omega
    cases b with
    | true =>
      have hre : refsOf true e = e.auth := rfl
      rw [hre] at hsu h40 hrm
      simp [go_sem, h0, h1, h2, h8, h7, hlt]
      refine AWp.loop_vc [] (fun m s => ∃ q : Nat, q ≤ e.auth.length ∧ m = e.auth.length - q ∧ s.σ 0 = evs l ∧ s.σ 1 = ints ids ∧ s.σ 2 = B true ∧ s.σ 8 = I k ∧ s.σ 11 = ints e.auth ∧ s.σ 12 = I q ∧ s.σ 7 = ints (sortedL (X ++ (e.auth.take q).filter (knownB l)))) e.auth.length ⟨0, by simp [go_sem, h0, h1, h2, h8, h7]⟩ ?_
      clear h0 h1 h2 h8 h7
      rintro m s ⟨q, hq, rfl, h0, h1, h2, h8, h11, h12, h7⟩
      by_cases hlq : q < e.auth.length
      · have hfs := filter_snoc (p := knownB l) hlq X
        have hfl := List.length_filter_le (knownB l) (e.auth.take q)
        rw [List.length_take] at hfl
        have hYl : (X ++ (e.auth.take q).filter (knownB l)).length ≤ 100000 := by rw [List.length_append]; omega
        generalize X ++ (e.auth.take q).filter (knownB l) = Y at h7 hfs hYl
        have hsl := sortedL_lenG Y
        simp [go_sem, h0, h1, h2, h8, h11, h12, h7, hlq]
        refine CallSem.pure (rgetE_ac l e.auth[q]) (by simp [go_sem]) ?_
        unfold optE
        have hkn : knownB l e.auth[q] = (getE l e.auth[q]).isSome := rfl
        generalize (getE l e.auth[q]).getD evZ = e2
        cases hg : (getE l e.auth[q]).isSome with
        | true =>
          rw [hg] at hkn
          rw [hkn, if_pos rfl] at hfs
          simp [go_sem, h0, h1, h2, h8, h11, h12, h7, hlq]
          refine CallSem.pure (put_ac (sortedL Y) e.auth[q] (by omega)) (by simp [go_sem]) ?_
          rw [← sortedL_snoc, ← hfs]
          simp [go_sem, h0, h1, h2, h8, h11, h12, h7, hlq, wrap_succ hlq hrm]
          exact ⟨e.auth.length - (q + 1), by omega, q + 1, by omega, rfl, rfl, rfl⟩
        | false =>
          rw [hg] at hkn
          rw [hkn] at hfs
          simp [go_sem, h0, h1, h2, h8, h11, h12, h7, hlq, wrap_succ hlq hrm]
          exact ⟨e.auth.length - (q + 1), by omega, q + 1, by omega, rfl, rfl, by rw [hfs]; simp⟩
      · rw [List.take_of_length_le (by omega)] at h7
        simp [go_sem, h0, h1, h2, h8, h11, h12, h7, hlq, wrap_succ hlt hm]
        exact ⟨ids.length - (k + 1), by omega, k + 1, by omega, rfl, rfl, by rw [hsu]⟩
    | false =>
      have hre : refsOf false e = e.prev := rfl
      rw [hre] at hsu h40 hrm
      simp [go_sem, h0, h1, h2, h8, h7, hlt]
      refine AWp.loop_vc [] (fun m s => ∃ q : Nat, q ≤ e.prev.length ∧ m = e.prev.length - q ∧ s.σ 0 = evs l ∧ s.σ 1 = ints ids ∧ s.σ 2 = B false ∧ s.σ 8 = I k ∧ s.σ 11 = ints e.prev ∧ s.σ 12 = I q ∧ s.σ 7 = ints (sortedL (X ++ (e.prev.take q).filter (knownB l)))) e.prev.length ⟨0, by simp [go_sem, h0, h1, h2, h8, h7]⟩ ?_
      clear h0 h1 h2 h8 h7
      rintro m s ⟨q, hq, rfl, h0, h1, h2, h8, h11, h12, h7⟩
      by_cases hlq : q < e.prev.length
      · have hfs := filter_snoc (p := knownB l) hlq X
        have hfl := List.length_filter_le (knownB l) (e.prev.take q)
        rw [List.length_take] at hfl
        have hYl : (X ++ (e.prev.take q).filter (knownB l)).length ≤ 100000 := by rw [List.length_append]; omega
        generalize X ++ (e.prev.take q).filter (knownB l) = Y at h7 hfs hYl
        have hsl := sortedL_lenG Y
        simp [go_sem, h0, h1, h2, h8, h11, h12, h7, hlq]
        refine CallSem.pure (rgetE_ac l e.prev[q]) (by simp [go_sem]) ?_
        unfold optE
        have hkn : knownB l e.prev[q] = (getE l e.prev[q]).isSome := rfl
        generalize (getE l e.prev[q]).getD evZ = e2
        cases hg : (getE l e.prev[q]).isSome with
        | true =>
          rw [hg] at hkn
          rw [hkn, if_pos rfl] at hfs
          simp [go_sem, h0, h1, h2, h8, h11, h12, h7, hlq]
          refine CallSem.pure (put_ac (sortedL Y) e.prev[q] (by omega)) (by simp [go_sem]) ?_
          rw [← sortedL_snoc, ← hfs]
          simp [go_sem, h0, h1, h2, h8, h11, h12, h7, hlq, wrap_succ hlq hrm]
          exact ⟨e.prev.length - (q + 1), by omega, q + 1, by omega, rfl, rfl, rfl⟩
        | false =>
          rw [hg] at hkn
          rw [hkn] at hfs
          simp [go_sem, h0, h1, h2, h8, h11, h12, h7, hlq, wrap_succ hlq hrm]
          exact ⟨e.prev.length - (q + 1), by omega, q + 1, by omega, rfl, rfl, by rw [hfs]; simp⟩
      · rw [List.take_of_length_le (by omega)] at h7
        simp [go_sem, h0, h1, h2, h8, h11, h12, h7, hlq, wrap_succ hlt hm]
        exact ⟨ids.length - (k + 1), by omega, k + 1, by omega, rfl, rfl, by rw [hsu]⟩
  · rw [List.take_of_length_le (by omega)] at h7
    simp [go_sem, h0, h1, h2, h8, h7, hlt]
    refine PostR.ret ?_
    simp [go_sem]
def knownOf (l : List Evt) (ids : List Int) : List Int := minusOf ids (missOf l ids)
theorem mem_knownOf {l : List Evt} {ids : List Int} {n : Int} : n ∈ knownOf l ids ↔ n ∈ ids ∧ knownB l n = true := by
  unfold knownOf minusOf missOf hasI
  rw [List.mem_filter, (sortedL_sorted _).2]
  constructor
  · rintro ⟨h1, h2⟩
    refine ⟨h1, ?_⟩
    by_cases g : knownB l n = true
    · exact g
    · have : n ∈ sortedL (ids.filter fun n => !knownB l n) := by rw [(sortedL_sorted _).2, List.mem_filter]; exact ⟨h1, by simpa using g⟩
      simp [this] at h2
  · rintro ⟨h1, h2⟩
    refine ⟨h1, ?_⟩
    have : ¬ n ∈ sortedL (ids.filter fun n => !knownB l n) := by rw [(sortedL_sorted _).2, List.mem_filter, h2]; simp
    simp [this]
theorem knownOf_sorted (l : List Evt) (ids : List Int) : (knownOf l ids).Pairwise (· < ·) := by
  unfold knownOf minusOf; exact (sortedL_sorted _).1.filter _
theorem sorted_known_len {l : List Evt} {a : List Int} (hs : a.Pairwise (· < ·)) (hk : ∀ n ∈ a, knownB l n = true) : a.length ≤ l.length := by
  have := nodup_len (a := a) (b := l.map (·.id)) (hs.imp fun h => Int.ne_of_lt h) fun x hx => known_id (hk x hx)
  simpa using this
set_option maxRecDepth 8000 in
set_option maxHeartbeats 4000000 in
theorem known_ac (l : List Evt) (ids : List Int) (hsz : ids.length ≤ 100000) : AC Try.prog 48 [evs l, ints ids] (ints (knownOf l ids)) := by
  refine AC.of_body Try.func48 rfl rfl Try.ntmps48 (congrArg Array.toList Try.results48) (by simp) (pures2 (pure_evs _) (pure_ints _)) (pureR_ints _) fun w S' => AWp.of_vc [] ?_
  simp [go_sem]
  refine CallSem.pure (missing_ac l ids hsz) (by simp [go_sem]) ?_
  unfold knownOf
  generalize missOf l ids = M
  simp [go_sem]
  refine CallSem.pure (rminus_ac ids M hsz) (by simp [go_sem]) ?_
  simp [go_sem]
  refine PostR.ret ?_
  simp [go_sem]
theorem mem_nextS {l : List Evt} {b : Bool} {ids : List Int} {n : Int} : n ∈ nextS l b ids ↔ knownB l n = true ∧ ∃ m ∈ ids, ∃ e, getE l m = some e ∧ n ∈ refsOf b e := by
  unfold nextS nextL
  rw [(sortedL_sorted _).2, List.mem_flatMap]
  constructor
  · rintro ⟨m, hm, hn⟩
    rw [List.mem_filter] at hn
    refine ⟨hn.2, m, hm, ?_⟩
    cases hg : getE l m with
    | none => rw [hg] at hn; have := hn.1; cases b <;> simp [refsOf, evZ] at this
    | some e => rw [hg] at hn; exact ⟨e, rfl, hn.1⟩
  · rintro ⟨hk, m, hm, e, he, hn⟩
    refine ⟨m, hm, List.mem_filter.2 ⟨?_, hk⟩⟩
    rw [he]; exact hn
/-- What is reached in some steps. -/
def itR (l : List Evt) (b : Bool) (ids : List Int) : Nat → List Int
  | 0 => ids
  | k + 1 => sortedL (itR l b ids k ++ nextS l b (itR l b ids k))
section
variable {l : List Evt} {b : Bool} {ids : List Int}
theorem itR_sorted (hs : ids.Pairwise (· < ·)) : ∀ k, (itR l b ids k).Pairwise (· < ·)
  | 0 => hs
  | k + 1 => (sortedL_sorted _).1
theorem mem_itR_succ {k : Nat} {n : Int} : n ∈ itR l b ids (k + 1) ↔ n ∈ itR l b ids k ∨ n ∈ nextS l b (itR l b ids k) := by
  show n ∈ sortedL _ ↔ _
  rw [(sortedL_sorted _).2, List.mem_append]
theorem itR_reach (hk : ∀ n ∈ ids, knownB l n = true) : ∀ k, ∀ n ∈ itR l b ids k, Reach l b ids n
  | 0, n, h => .start h (hk n h)
  | k + 1, n, h => by
    rcases mem_itR_succ.1 h with h | h
    · exact itR_reach hk k n h
    · obtain ⟨hkn, m, hm, e, he, hn⟩ := mem_nextS.1 h
      exact .step (itR_reach hk k m hm) he hn hkn
theorem itR_len (hs : ids.Pairwise (· < ·)) (hk : ∀ n ∈ ids, knownB l n = true) (k : Nat) : (itR l b ids k).length ≤ l.length :=
  sorted_known_len (itR_sorted hs k) fun n hn => (itR_reach hk k n hn).known
theorem itR_start (k : Nat) : ∀ n ∈ ids, n ∈ itR l b ids k := by
  induction k with
  | zero => exact fun n h => h
  | succ k ih => exact fun n h => mem_itR_succ.2 (.inl (ih n h))
def ShutL (l : List Evt) (b : Bool) (a : List Int) : Prop := ∀ n ∈ nextS l b a, n ∈ a
theorem itR_shut (hs : ids.Pairwise (· < ·)) {k : Nat} (h : ShutL l b (itR l b ids k)) : itR l b ids (k + 1) = itR l b ids k :=
  strict_ext (itR_sorted hs _) (itR_sorted hs _) fun x => by rw [mem_itR_succ]; exact ⟨fun g => g.elim id (h x), .inl⟩
theorem itR_grow (hs : ids.Pairwise (· < ·)) : ∀ k, ShutL l b (itR l b ids k) ∨ k ≤ (itR l b ids k).length
  | 0 => .inr (Nat.zero_le _)
  | k + 1 => by
    rcases itR_grow hs k with h | h
    · left; rw [itR_shut hs h]; exact h
    · by_cases g : ShutL l b (itR l b ids k)
      · left; rw [itR_shut hs g]; exact g
      · right
        have g : ∃ n, n ∈ nextS l b (itR l b ids k) ∧ n ∉ itR l b ids k := by
          refine Classical.byContradiction fun hc => g fun n hn => Classical.byContradiction fun hno => hc ⟨n, hn, hno⟩
        obtain ⟨n, hn, hno⟩ := g
        have hnd : (n :: itR l b ids k).Nodup := List.nodup_cons.2 ⟨hno, (itR_sorted hs k).imp fun h => Int.ne_of_lt h⟩
        have := nodup_len (b := itR l b ids (k + 1)) hnd fun x hx => by
          rcases List.mem_cons.1 hx with rfl | hx
          · exact mem_itR_succ.2 (.inr hn)
          · exact mem_itR_succ.2 (.inl hx)
        simp only [List.length_cons] at this
        omega
theorem itR_end (hs : ids.Pairwise (· < ·)) (hk : ∀ n ∈ ids, knownB l n = true) : itR l b ids l.length = reachOf l b ids := by
  have hshut : ShutL l b (itR l b ids l.length) := by
    rcases itR_grow (l := l) (b := b) hs l.length with h | h
    · exact h
    · intro n hn
      refine Classical.byContradiction fun hno => ?_
      have hnd : (n :: itR l b ids l.length).Nodup := List.nodup_cons.2 ⟨hno, (itR_sorted hs _).imp fun h => Int.ne_of_lt h⟩
      have := nodup_len (b := l.map (·.id)) hnd fun x hx => by
        rcases List.mem_cons.1 hx with rfl | hx
        · exact known_id (mem_nextS.1 hn).1
        · exact known_id (itR_reach hk _ x hx).known
      simp only [List.length_cons, List.length_map] at this
      omega
  refine strict_ext (itR_sorted hs _) (reachOf_sorted l b ids) fun x => ?_
  rw [mem_reachOf]
  refine ⟨itR_reach hk _ x, fun h => ?_⟩
  induction h with
  | start h _ => exact itR_start _ _ h
  | step _ he hn hkn ih => exact hshut _ (mem_nextS.2 ⟨hkn, _, ih, _, he, hn⟩)
end
theorem reachOf_congr {l : List Evt} {b : Bool} {fr fr' : List Int} (h : ∀ n, knownB l n = true → (n ∈ fr ↔ n ∈ fr')) : reachOf l b fr = reachOf l b fr' := by
  have one : ∀ {fr fr' : List Int}, (∀ n, knownB l n = true → n ∈ fr → n ∈ fr') → ∀ n, Reach l b fr n → Reach l b fr' n := by
    intro fr fr' h n hr
    induction hr with
    | start hn hk => exact .start (h _ hk hn) hk
    | step _ he hn hk ih => exact .step ih he hn hk
  refine strict_ext (reachOf_sorted _ _ _) (reachOf_sorted _ _ _) fun x => ?_
  rw [mem_reachOf, mem_reachOf]
  exact ⟨one (fun n hk => (h n hk).1) x, one (fun n hk => (h n hk).2) x⟩
set_option maxRecDepth 8000 in
set_option maxHeartbeats 4000000 in
theorem reached_ac (l : List Evt) (ids : List Int) (b : Bool) (hl : Fit l) (hs : ids.Pairwise (· < ·)) (hk : ∀ n ∈ ids, knownB l n = true) : AC Try.prog 47 [evs l, ints ids, B b] (ints (reachOf l b ids)) := by
  refine AC.of_body Try.func47 rfl rfl Try.ntmps47 (congrArg Array.toList Try.results47) (by simp) (pures3 (pure_evs _) (pure_ints _) (pure_B _)) (pureR_ints _) fun w S' => AWp.of_vc [] ?_
  have hll := hl.len
  have hm : l.length ≤ maxLen := by unfold maxLen; omega
  simp [go_sem]
  refine AWp.loop_vc [] (fun m s => ∃ k : Nat, k ≤ l.length ∧ m = l.length - k ∧ s.σ 0 = evs l ∧ s.σ 2 = B b ∧ s.σ 7 = I k ∧ s.σ 1 = ints (itR l b ids k)) l.length ⟨0, by simp [go_sem, itR]⟩ ?_
  rintro m s ⟨k, hk', rfl, h0, h2, h7, h1⟩
  by_cases hlt : k < l.length
  · have hil := itR_len (b := b) hs hk k
    have hsu : itR l b ids (k + 1) = sortedL (itR l b ids k ++ nextS l b (itR l b ids k)) := rfl
    generalize itR l b ids k = R at h1 hil hsu
    simp [go_sem, h0, h2, h7, h1, hlt]
    refine CallSem.pure (next_ac l R b hl (by omega)) (by simp [go_sem]) ?_
    have hnl := nextL_len hl b R
    have hnl2 : (nextS l b R).length ≤ (nextL l b R).length := sortedL_lenG _
    generalize nextS l b R = N at hsu hnl2 ⊢
    simp [go_sem, h0, h2, h7, h1, hlt]
    refine CallSem.pure (runion_ac R N (by omega) (by omega)) (by simp [go_sem]) ?_
    rw [← hsu]
    simp [go_sem, h0, h2, h7, h1, hlt, wrap_succ hlt hm]
    exact ⟨l.length - (k + 1), by omega, k + 1, by omega, rfl, rfl, rfl⟩
  · obtain rfl : k = l.length := (by omega)
    rw [itR_end hs hk] at h1
    simp [go_sem, h0, h2, h7, h1]
    refine PostR.ret ?_
    simp [go_sem]
set_option maxRecDepth 8000 in
set_option maxHeartbeats 4000000 in
theorem ranc_ac (l : List Evt) (ids : List Int) (hl : Fit l) (hsz : ids.length ≤ 100000) : AC Try.prog 23 [evs l, ints ids] (ints (reachOf l false ids)) := by
  refine AC.of_body Try.func23 rfl rfl Try.ntmps23 (congrArg Array.toList Try.results23) (by simp) (pures2 (pure_evs _) (pure_ints _)) (pureR_ints _) fun w S' => AWp.of_vc [] ?_
  have e : reachOf l false (knownOf l ids) = reachOf l false ids := reachOf_congr fun n hk => by rw [mem_knownOf]; exact ⟨fun h => h.1, fun h => ⟨h, hk⟩⟩
  have hs := knownOf_sorted l ids
  have hk : ∀ n ∈ knownOf l ids, knownB l n = true := fun n hn => (mem_knownOf.1 hn).2
  rw [← e]
  simp [go_sem]
  refine CallSem.pure (known_ac l ids hsz) (by simp [go_sem]) ?_
  clear e
  generalize knownOf l ids = N at hs hk ⊢
  simp [go_sem]
  refine CallSem.pure (reached_ac l N false hl hs hk) (by simp [go_sem]) ?_
  simp [go_sem]
  refine PostR.ret ?_
  simp [go_sem]
theorem chain_start (l : List Evt) (ids : List Int) : reachOf l true (nextS l true (knownOf l ids)) = chainOf l ids := by
  unfold chainOf
  refine reachOf_congr fun n hk => ?_
  rw [mem_nextS]
  unfold firstOf
  rw [List.mem_flatMap]
  constructor
  · rintro ⟨_, m, hm, e, he, hn⟩
    exact ⟨m, (mem_knownOf.1 hm).1, by rw [he]; exact hn⟩
  · rintro ⟨m, hm, hn⟩
    cases hg : getE l m with
    | none => rw [hg] at hn; simp at hn
    | some e =>
      rw [hg] at hn
      exact ⟨hk, m, mem_knownOf.2 ⟨hm, by unfold knownB; rw [hg]; rfl⟩, e, hg, hn⟩
set_option maxRecDepth 8000 in
set_option maxHeartbeats 4000000 in
theorem rchain_ac (l : List Evt) (ids : List Int) (hl : Fit l) (hsz : ids.length ≤ 100000) : AC Try.prog 25 [evs l, ints ids] (ints (chainOf l ids)) := by
  refine AC.of_body Try.func25 rfl rfl Try.ntmps25 (congrArg Array.toList Try.results25) (by simp) (pures2 (pure_evs _) (pure_ints _)) (pureR_ints _) fun w S' => AWp.of_vc [] ?_
  have hll := hl.len
  have hkl := sorted_known_len (knownOf_sorted l ids) (fun n hn => (mem_knownOf.1 hn).2)
  have hs : (nextS l true (knownOf l ids)).Pairwise (· < ·) := (sortedL_sorted _).1
  have hk : ∀ n ∈ nextS l true (knownOf l ids), knownB l n = true := fun n hn => (mem_nextS.1 hn).1
  have e := chain_start l ids
  generalize chainOf l ids = C at e ⊢
  simp [go_sem]
  refine CallSem.pure (known_ac l ids hsz) (by simp [go_sem]) ?_
  generalize knownOf l ids = N at hs hk e hkl ⊢
  simp [go_sem]
  refine CallSem.pure (next_ac l N true hl (by omega)) (by simp [go_sem]) ?_
  generalize nextS l true N = M at hs hk e ⊢
  simp [go_sem]
  refine CallSem.pure (reached_ac l M true hl hs hk) (by simp [go_sem]) ?_
  rw [e]
  simp [go_sem]
  refine PostR.ret ?_
  simp [go_sem]
set_option maxRecDepth 8000 in
set_option maxHeartbeats 4000000 in
theorem rbefore_ac (l : List Evt) (a b : Int) (hl : Fit l) : AC Try.prog 29 [evs l, I a, I b] (B (beforeOf l a b)) := by
  refine AC.of_body Try.func29 rfl rfl Try.ntmps29 (congrArg Array.toList Try.results29) (by simp) (pures3 (pure_evs _) (pure_I _) (pure_I _)) (pure_B _) fun w S' => AWp.of_vc [] ?_
  by_cases g : a = b
  · have hb : beforeOf l a b = false := by unfold beforeOf; rw [g]; simp
    rw [g] at hb
    simp [go_sem, g]
    refine PostR.ret ?_
    simp [go_sem, hb]
  · have hb : beforeOf l a b = (reachOf l false [b]).contains a := by unfold beforeOf; simp [g]
    simp [go_sem, g]
    refine CallSem.pure (ranc_ac l [b] hl (by simp)) (by simp [go_sem]) ?_
    generalize hR : reachOf l false [b] = R at hb ⊢
    simp [go_sem, g]
    refine CallSem.pure (has_ac R a) (by simp [go_sem]) ?_
    rw [← hb]
    simp [go_sem, g]
    refine PostR.ret ?_
    simp [go_sem]
end Go.Proofs.Ythlcncofhnkohaa
