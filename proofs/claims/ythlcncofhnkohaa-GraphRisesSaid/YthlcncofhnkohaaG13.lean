/- The laws of chapter 09: Rises, Spans. No condition. -/
import Derived.Test.YthlcncofhnkohaaG11
namespace Go.Proofs.Ythlcncofhnkohaa
open Go Go.Abs
set_option linter.unusedSimpArgs false
set_option maxRecDepth 8000 in
set_option maxHeartbeats 4000000 in
theorem depth9_ac (l : List Evt) (n : Int) : AC Try.prog 30 [evs l, I n] (I (depthOf l n)) := by
  refine AC.of_body Try.func30 rfl rfl Try.ntmps30 (congrArg Array.toList Try.results30) (by simp) (pures2 (pure_evs _) (pure_I _)) (pure_I _) fun w S' => AWp.of_vc [] ?_
  simp [go_sem]
  refine CallSem.pure (rgetE_ac l n) (by simp [go_sem]) ?_
  unfold optE depthOf
  generalize (getE l n).getD evZ = e
  simp [go_sem]
  refine PostR.ret ?_
  simp [go_sem]

theorem depths_zero {l : List Evt} (h : depthsP l = 0) : closedOf l = true ∧ ∀ e ∈ l, deepP l e = true := by
  unfold depthsP at h
  split at h
  · rename_i hc
    split at h
    · rename_i ha; exact ⟨hc, List.all_eq_true.1 ha⟩
    · cases h
  · cases h
theorem mostOf_ge (l : List Evt) : ∀ (r : List Int) (d : Int), (∀ n ∈ r, depthOf l n ≤ mostOf l d r) ∧ d ≤ mostOf l d r
  | [], d => ⟨(fun _ h => (by cases h)), Int.le_refl _⟩
  | n :: r, d => by
    have ih := mostOf_ge l r (if d < depthOf l n then depthOf l n else d)
    have e : mostOf l d (n :: r) = mostOf l (if d < depthOf l n then depthOf l n else d) r := rfl
    rw [e]
    obtain ⟨h1, h2⟩ := ih
    generalize mostOf l (if d < depthOf l n then depthOf l n else d) r = M at h1 h2
    refine ⟨fun x hx => ?_, ?_⟩
    · rcases List.mem_cons.1 hx with rfl | hx
      · split at h2 <;> omega
      · exact h1 x hx
    · split at h2 <;> omega
theorem deep_less {l : List Evt} {e : Evt} (h : deepP l e = true) (b : Bool) : ∀ n ∈ refsOf b e, depthOf l n < e.depth := by
  unfold deepP at h
  rw [Bool.and_eq_true] at h
  obtain ⟨ha, hn⟩ := h
  intro n hm
  cases b with
  | true =>
    have ha : authBad l e = false := by simpa using ha
    unfold authBad at ha
    have := List.any_eq_false.1 ha n hm
    simp at this; omega
  | false =>
    have hm : n ∈ e.prev := hm
    unfold nearOf at hn
    cases hP : e.prev with
    | nil => rw [hP] at hm; cases hm
    | cons n0 r =>
      rw [hP] at hn hm
      simp only [Bool.and_eq_true, decide_eq_true_eq] at hn
      have := (mostOf_ge l (n0 :: r) (depthOf l n0)).1 n hm
      omega
theorem depth_step {l : List Evt} (hd : ∀ e ∈ l, deepP l e = true) {b : Bool} {m n : Int} {e : Evt} (he : getE l m = some e) (hn : n ∈ refsOf b e) : depthOf l n < depthOf l m := by
  have h1 := deep_less (hd e (List.mem_of_find?_eq_some he)) b n hn
  have h2 : depthOf l m = e.depth := by unfold depthOf; rw [he]; rfl
  omega
theorem reach_le {l : List Evt} (hd : ∀ e ∈ l, deepP l e = true) {b : Bool} {x n : Int} (h : Reach l b [x] n) : n = x ∨ depthOf l n < depthOf l x := by
  induction h with
  | start h _ => exact .inl (by simpa using h)
  | step _ he hn _ ih =>
    have := depth_step hd he hn
    rcases ih with rfl | ih
    · exact .inr this
    · exact .inr (by omega)
theorem chain_lt {l : List Evt} (hd : ∀ e ∈ l, deepP l e = true) {x n : Int} (h : Reach l true (firstOf l [x]) n) : depthOf l n < depthOf l x := by
  induction h with
  | start h _ =>
    unfold firstOf at h
    simp only [List.flatMap_cons, List.flatMap_nil, List.append_nil] at h
    cases hg : getE l x with
    | none => rw [hg] at h; simp at h
    | some e => rw [hg] at h; exact depth_step (b := true) hd hg h
  | step _ he hn _ ih => have := depth_step hd he hn; omega
theorem before_self (l : List Evt) (b : Int) : beforeOf l b b = false := by unfold beforeOf; simp
set_option maxRecDepth 8000 in
set_option maxHeartbeats 4000000 in
theorem rises9_law (l : List Evt) (b : Int) : AC Try.prog 7 [evs l, I b] (B true) := by
  refine AC.of_body Try.func7 rfl rfl Try.ntmps7 (congrArg Array.toList Try.results7) (by simp) (pures2 (pure_evs _) (pure_I _)) (pure_B _) fun w S' => AWp.of_vc [] ?_
  simp [go_sem]
  refine CallSem.pure (great_ac l) (by simp [go_sem]) ?_
  cases hG : greatOf l 14 with
  | true =>
    simp [go_sem]
    refine CallSem.pure live9_ac (by simp [go_sem]) ?_
    simp [go_sem]
    refine PostR.ret ?_
    simp [go_sem]
  | false =>
    have hl := great_fit hG
    have hll := hl.len
    simp [go_sem]
    refine CallSem.pure (depths_ac l hl) (by simp [go_sem]) ?_
    by_cases hD : depthsP l = 0
    · obtain ⟨hc, hd⟩ := depths_zero hD
      simp [go_sem, hD]
      refine CallSem.pure (anc_ac l [b] hl (by simp)) (by simp [go_sem]) ?_
      have hul := reachOf_len l false [b]
      have hum : ∀ n ∈ reachOf l false [b], n = b ∨ (beforeOf l n b = true ∧ depthOf l n < depthOf l b) := fun n hn => by
        by_cases g : n = b
        · exact .inl g
        · refine .inr ⟨?_, (reach_le hd (mem_reachOf.1 hn)).resolve_left g⟩
          unfold beforeOf
          simp [g, hn]
      generalize reachOf l false [b] = U at hul hum ⊢
      simp [go_sem, hD]
      refine CallSem.pure (chain_ac l [b] hl (by simp)) (by simp [go_sem]) ?_
      have hcl : (chainOf l [b]).length ≤ l.length := reachOf_len _ _ _
      have hcm : ∀ n ∈ chainOf l [b], depthOf l n < depthOf l b := fun n hn => chain_lt hd (mem_reachOf.1 hn)
      generalize chainOf l [b] = C at hcl hcm ⊢
      have hUm : U.length ≤ maxLen := by unfold maxLen; omega
      have hCm : C.length ≤ maxLen := by unfold maxLen; omega
      simp [go_sem, hD]
      refine AWp.loop_vc [] (fun m s => ∃ k : Nat, k ≤ U.length ∧ m = U.length - k ∧ s.σ 0 = evs l ∧ s.σ 1 = I b ∧ s.σ 5 = ints U ∧ s.σ 6 = ints C ∧ s.σ 7 = I k) U.length ⟨0, by simp [go_sem]⟩ ?_
      rintro m s ⟨k, hk, rfl, h0, h1, h5, h6, h7⟩
      by_cases hlt : k < U.length
      · rcases hum _ (List.getElem_mem hlt) with hb | ⟨hb, hdl⟩
        · simp [go_sem, h0, h1, h5, h6, h7, hlt, hb, wrap_succ hlt hUm]
          exact ⟨U.length - (k + 1), by omega, k + 1, by omega, rfl, rfl⟩
        · have hne : ¬ U[k] = b := fun g => by rw [g, before_self] at hb; cases hb
          simp [go_sem, h0, h1, h5, h6, h7, hlt, hne]
          refine CallSem.pure (before_ac l U[k] b hl) (by simp [go_sem]) ?_
          rw [hb]
          simp [go_sem, h0, h1, h5, h6, h7, hlt, hne]
          refine CallSem.pure (depth9_ac l U[k]) (by simp [go_sem]) ?_
          simp [go_sem, h0, h1, h5, h6, h7, hlt, hne]
          refine CallSem.pure (depth9_ac l b) (by simp [go_sem]) ?_
          have hdl' : ¬ depthOf l b ≤ depthOf l U[k] := by omega
          simp [go_sem, h0, h1, h5, h6, h7, hlt, hne, hdl', wrap_succ hlt hUm]
          exact ⟨U.length - (k + 1), by omega, k + 1, by omega, rfl, rfl⟩
      · simp [go_sem, h0, h1, h5, h6, h7, hlt]
        refine AWp.loop_vc [] (fun m s => ∃ k : Nat, k ≤ C.length ∧ m = C.length - k ∧ s.σ 0 = evs l ∧ s.σ 1 = I b ∧ s.σ 6 = ints C ∧ s.σ 8 = I k) C.length ⟨0, by simp [go_sem, h0, h1, h6]⟩ ?_
        clear h0 h1 h5 h6 h7 hlt hk k
        rintro m s ⟨k, hk, rfl, h0, h1, h6, h8⟩
        by_cases hlt : k < C.length
        · have hdl := hcm _ (List.getElem_mem hlt)
          have hdl' : ¬ depthOf l b ≤ depthOf l C[k] := by omega
          simp [go_sem, h0, h1, h6, h8, hlt]
          refine CallSem.pure (depth9_ac l C[k]) (by simp [go_sem]) ?_
          simp [go_sem, h0, h1, h6, h8, hlt]
          refine CallSem.pure (depth9_ac l b) (by simp [go_sem]) ?_
          simp [go_sem, h0, h1, h6, h8, hlt, hdl', wrap_succ hlt hCm]
          exact ⟨C.length - (k + 1), by omega, k + 1, by omega, rfl, rfl⟩
        · simp [go_sem, h0, h1, h6, h8, hlt]
          refine CallSem.pure (before_ac l b b hl) (by simp [go_sem]) ?_
          rw [before_self]
          simp [go_sem, h0, h1, h6, h8, hlt]
          refine CallSem.pure live9_ac (by simp [go_sem]) ?_
          simp [go_sem]
          refine PostR.ret ?_
          simp [go_sem]
    · simp [go_sem, hD]
      refine CallSem.pure live9_ac (by simp [go_sem]) ?_
      simp [go_sem]
      refine PostR.ret ?_
      simp [go_sem]

def Inc (l : List Evt) : Prop := l.Pairwise fun a b => a.id < b.id
theorem inc_of_steps {l : List Evt} (h : ∀ i, (hi : i + 1 < l.length) → l[i].id < l[i + 1].id) : Inc l := by
  have key : ∀ j (hj : j < l.length) i (hi : i < j), l[i].id < l[j].id := by
    intro j
    induction j with
    | zero => intro _ i hi; omega
    | succ j ih =>
      intro hj i hi
      have h1 := h j hj
      rcases Nat.lt_or_ge i j with g | g
      · have := ih (by omega) i g; omega
      · obtain rfl : i = j := (by omega)
        exact h1
  exact List.pairwise_iff_getElem.2 fun i j hi hj hij => key j hj i hij
theorem inc_nodup {l : List Evt} (h : Inc l) : (l.map (·.id)).Nodup := by
  unfold List.Nodup
  rw [List.pairwise_map]
  exact h.imp fun h => Int.ne_of_lt h
theorem inc_sorted {l : List Evt} (h : Inc l) : (l.map (·.id)).Pairwise (· < ·) := by rw [List.pairwise_map]; exact h
theorem getE_of {l : List Evt} (h : Inc l) {e : Evt} (he : e ∈ l) : getE l e.id = some e := by
  cases hg : getE l e.id with
  | none =>
    unfold getE at hg
    rw [List.find?_eq_none] at hg
    exact absurd (hg e he) (by simp)
  | some x =>
    have hx := List.mem_of_find?_eq_some hg
    have hid : x.id = e.id := by simpa using List.find?_some hg
    obtain ⟨i, hi, rfl⟩ := List.mem_iff_getElem.1 hx
    obtain ⟨j, hj, rfl⟩ := List.mem_iff_getElem.1 he
    rcases Nat.lt_trichotomy i j with g | g | g
    · have := List.pairwise_iff_getElem.1 h i j hi hj g; omega
    · subst g; rfl
    · have := List.pairwise_iff_getElem.1 h j i hj hi g; omega
theorem order_ahead {l : List Evt} (hc : closedOf l = true) (hd : ∀ e ∈ l, deepP l e = true) {k : Nat} (hk : k < (isortE l).length) (b : Bool) : ∀ n ∈ refsOf b (isortE l)[k], ∃ j, ∃ hj : j < (isortE l).length, j < k ∧ (isortE l)[j].id = n := by
  intro n hn
  have hmem : ∀ e, e ∈ isortE l ↔ e ∈ l := fun e => (isortE_perm l).mem_iff
  have he : (isortE l)[k] ∈ l := (hmem _).1 (List.getElem_mem hk)
  have hlt := deep_less (hd _ he) b n hn
  have hkn : knownB l n = true := by
    have := closed_all hc _ he
    unfold allKnown at this
    cases b with
    | true => exact List.all_eq_true.1 this.2 n hn
    | false => exact List.all_eq_true.1 this.1 n hn
  unfold knownB at hkn
  obtain ⟨x, hx⟩ := Option.isSome_iff_exists.1 hkn
  have hxd : depthOf l n = x.depth := by unfold depthOf; rw [hx]; rfl
  have hxid : x.id = n := by simpa using List.find?_some hx
  obtain ⟨j, hj, hjx⟩ := List.mem_iff_getElem.1 ((hmem x).2 (List.mem_of_find?_eq_some hx))
  refine ⟨j, hj, ?_, by rw [hjx]; exact hxid⟩
  rcases Nat.lt_trichotomy j k with g | g | g
  · exact g
  · subst g; rw [hjx] at hlt; omega
  · have := List.pairwise_iff_getElem.1 (isortE_sorted l) k j hk hj g
    rw [hjx] at this
    simp only [leE, Bool.or_eq_true, decide_eq_true_eq, Bool.and_eq_true, beq_iff_eq] at this
    omega
theorem order_ids {l : List Evt} (hc : closedOf l = true) (hd : ∀ e ∈ l, deepP l e = true) (k : Nat) (hk : k < (isortE l).length) (b : Bool) : ∀ n ∈ refsOf b (isortE l)[k], n ∈ (orderOf l).take k := by
  intro n hn
  obtain ⟨j, hj, hjk, hid⟩ := order_ahead hc hd hk b n hn
  unfold orderOf
  refine List.mem_of_getElem? (i := j) ?_
  rw [List.getElem?_take_of_lt hjk, List.getElem?_map, List.getElem?_eq_getElem hj]
  simp [hid]
theorem heads_reach {l : List Evt} (hi : Inc l) (hc : closedOf l = true) (hd : ∀ e ∈ l, deepP l e = true) : reachOf l false (headsOf l (l.map (·.id))) = l.map (·.id) := by
  refine strict_ext (reachOf_sorted _ _ _) (inc_sorted hi) fun n => ?_
  rw [mem_reachOf]
  refine ⟨fun h => known_id h.known, fun hn => ?_⟩
  have hmem : ∀ e, e ∈ isortE l ↔ e ∈ l := fun e => (isortE_perm l).mem_iff
  have hnd : ((isortE l).map (·.id)).Nodup := ((isortE_perm l).map (·.id)).nodup_iff.2 (inc_nodup hi)
  have key : ∀ d k (hk : k < (isortE l).length), (isortE l).length - k = d → Reach l false (headsOf l (l.map (·.id))) (isortE l)[k].id := by
    intro d
    induction d using Nat.strongRecOn with
    | ind d ih =>
      intro k hk hkd
      have hel : (isortE l)[k] ∈ l := (hmem _).1 (List.getElem_mem hk)
      have hge := getE_of hi hel
      have hkn : knownB l (isortE l)[k].id = true := by unfold knownB; rw [hge]; rfl
      by_cases hb : (isortE l)[k].id ∈ belowOf l (l.map (·.id))
      · unfold belowOf at hb
        rw [List.mem_flatMap] at hb
        obtain ⟨m, hm, hb⟩ := hb
        cases hg : getE l m with
        | none => rw [hg] at hb; simp at hb
        | some e =>
          rw [hg] at hb
          unfold belowAt at hb
          simp only [Option.map_some, Option.getD_some, List.mem_filter] at hb
          have hmid : e.id = m := by simpa using List.find?_some hg
          obtain ⟨j, hj, hje⟩ := List.mem_iff_getElem.1 ((hmem e).2 (List.mem_of_find?_eq_some hg))
          have hpr : (isortE l)[k].id ∈ refsOf false (isortE l)[j] := by rw [hje]; exact hb.1
          obtain ⟨i, hi', hij, hid⟩ := order_ahead hc hd hj false _ hpr
          have hik : i = k := by
            have h1 : ((isortE l).map (·.id))[i]'(by simpa using hi') = ((isortE l).map (·.id))[k]'(by simpa using hk) := by simpa using hid
            exact (List.getElem_inj hnd).1 h1
          have hr := ih ((isortE l).length - j) (by omega) j hj rfl
          rw [hje, hmid] at hr
          exact .step hr hg (by exact hb.1) hkn
      · refine .start ?_ hkn
        unfold headsOf
        rw [(sortedSet_sorted _).2, List.mem_filter]
        refine ⟨List.mem_map.2 ⟨_, hel, rfl⟩, ?_⟩
        unfold hasCr2
        simpa using hb
  obtain ⟨e, he, rfl⟩ := List.mem_map.1 hn
  obtain ⟨k, hk, hke⟩ := List.mem_iff_getElem.1 ((hmem e).2 he)
  rw [← hke]
  exact key _ k hk rfl
theorem headsOf_len (l : List Evt) (ids : List Int) : (headsOf l ids).length ≤ ids.length := by
  unfold headsOf
  obtain ⟨h1, h2⟩ := sortedSet_sorted (ids.filter fun n => !hasCr2 (belowOf l ids) n)
  refine nodup_len (h1.imp fun h => Int.ne_of_lt h) fun x hx => ?_
  exact (List.mem_filter.1 ((h2 x).1 hx)).1
def IncUp (l : List Evt) (k : Nat) : Prop := ∀ i, (hi : i + 1 < l.length) → i + 1 < k → l[i].id < l[i + 1].id
theorem IncUp.one (l : List Evt) : IncUp l 1 := fun i _ h => by omega
theorem IncUp.step {l : List Evt} {p : Nat} (h : IncUp l (p + 1)) (hp : p + 1 < l.length) (hx : l[p].id < l[p + 1].id) : IncUp l (p + 1 + 1) := fun i hi hk => by
  by_cases g : i = p
  · subst g; exact hx
  · exact h i hi (by omega)
theorem minus_nil {a b : List Int} (h : ∀ n ∈ a, n ∈ b) : minusOf a b = [] := by
  unfold minusOf hasI
  rw [List.filter_eq_nil_iff]
  intro n hn
  have := h n ((sortedL_sorted a).2 n |>.1 hn)
  simp [this]
theorem orderOf_len (l : List Evt) : (orderOf l).length = l.length := by unfold orderOf; rw [List.length_map, isortE_len]
set_option maxRecDepth 8000 in
set_option maxHeartbeats 4000000 in
theorem spans9_law (l : List Evt) : AC Try.prog 8 [evs l] (B true) := by
  refine AC.of_body Try.func8 rfl rfl Try.ntmps8 (congrArg Array.toList Try.results8) (by simp) (pures1 (pure_evs _)) (pure_B _) fun w S' => AWp.of_vc [] ?_
  simp [go_sem]
  refine CallSem.pure (great_ac l) (by simp [go_sem]) ?_
  cases hG : greatOf l 14 with
  | true =>
    simp [go_sem]
    refine CallSem.pure live9_ac (by simp [go_sem]) ?_
    simp [go_sem]
    refine PostR.ret ?_
    simp [go_sem]
  | false =>
    have hl := great_fit hG
    have hll := hl.len
    have hm : l.length ≤ maxLen := by unfold maxLen; omega
    simp [go_sem]
    refine CallSem.pure (depths_ac l hl) (by simp [go_sem]) ?_
    by_cases hD : depthsP l = 0
    · obtain ⟨hc, hd⟩ := depths_zero hD
      simp [go_sem, hD]
      refine AWp.loop_vc [] (fun m s => ∃ p : Nat, p ≤ l.length ∧ m = l.length - p ∧ s.σ 0 = evs l ∧ s.σ 3 = I ((p : Int) + 1) ∧ IncUp l (p + 1)) l.length ⟨0, by simp [go_sem]; exact IncUp.one l⟩ ?_
      rintro m s ⟨p, hp, rfl, h0, h3, hup⟩
      by_cases hlt : p + 1 < l.length
      · have hlti : (p : Int) + 1 < (l.length : Int) := by omega
        have hpl : p < l.length := by omega
        have hpos2 : (0 : Int) ≤ (p : Int) + 1 := by omega
        have htn : ((p : Int) + 1).toNat = p + 1 := by omega
        have hw : IntKind.i64.wrap (p : Int) = p := wrap_natN (by omega)
        have hw2 : IntKind.i64.wrap ((p : Int) + 1 + 1) = (p : Int) + 1 + 1 := by have := wrap_succ hlt hm; simpa using this
        simp [go_sem, h0, h3, hlti]
        refine AWp.drawAll rfl (by kernel_rfl) ?_
        by_cases hc2 : l[p + 1].id ≤ l[p].id
        · simp [go_sem, h0, h3, hlti, hpl, hlt, hpos2, htn, hw, hc2]
          refine CallSem.pure live9_ac (by simp [go_sem]) ?_
          simp [go_sem]
          refine PostR.ret ?_
          simp [go_sem]
        · have hup' := hup.step hlt (by omega)
          simp [go_sem, h0, h3, hlti, hpl, hlt, hpos2, htn, hw, hw2, hc2]
          exact ⟨l.length - (p + 1), by omega, p + 1, by omega, rfl, by omega, hup'⟩
      · have hlti : ¬ (p : Int) + 1 < (l.length : Int) := by omega
        have hinc : Inc l := inc_of_steps fun i hi => hup i hi (by omega)
        simp [go_sem, h0, h3, hlti]
        refine CallSem.pure (rids_ac l (by omega)) (by simp [go_sem]) ?_
        have hids : (l.map (·.id)).length = l.length := by simp
        have hhr := heads_reach hinc hc hd
        generalize l.map (·.id) = ids at hids hhr
        simp [go_sem, h0, h3, hlti]
        refine CallSem.pure (order_ac l (by omega)) (by simp [go_sem]) ?_
        have hol := orderOf_len l
        have hSl := isortE_len l
        have hget : ∀ k (hk : k < (orderOf l).length), ∃ e, getE l (orderOf l)[k] = some e ∧ minusOf e.prev ((orderOf l).take k) = [] ∧ minusOf e.auth ((orderOf l).take k) = [] ∧ e.prev.length ≤ 40 ∧ e.auth.length ≤ 40 := by
          intro k hk
          have hk' : k < (isortE l).length := by omega
          have he : (isortE l)[k] ∈ l := (isortE_perm l).mem_iff.1 (List.getElem_mem hk')
          refine ⟨(isortE l)[k], ?_, minus_nil (order_ids hc hd k hk' false), minus_nil (order_ids hc hd k hk' true), hl.prev _ he, hl.auth _ he⟩
          have : (orderOf l)[k] = (isortE l)[k].id := by simp [orderOf]
          rw [this]; exact getE_of hinc he
        generalize orderOf l = O at hol hget ⊢
        have hOm : O.length ≤ maxLen := by omega
        simp [go_sem, h0, h3, hlti, hol]
        refine AWp.loop_vc [] (fun m s => ∃ k : Nat, k ≤ O.length ∧ m = O.length - k ∧ s.σ 0 = evs l ∧ s.σ 4 = ints ids ∧ s.σ 5 = ints O ∧ s.σ 6 = I k) O.length ⟨0, by simp [go_sem, h0, hol]⟩ ?_
        clear h0 h3 hlti hlt hup hp p
        rintro m s ⟨k, hk, rfl, h0, h4, h5, h6⟩
        by_cases hlt : k < O.length
        · obtain ⟨e, hg, hm1, hm2, hp40, ha40⟩ := hget k hlt
          have hmt : ints (O.take k) = .lst 1 (List.take k (O.map I)) := by simp [ints, List.map_take]
          have ac1 := rminus_ac e.prev (O.take k) (by omega)
          have ac2 := rminus_ac e.auth (O.take k) (by omega)
          rw [hm1, hmt] at ac1
          rw [hm2, hmt] at ac2
          simp [go_sem, h0, h4, h5, h6, hlt]
          refine CallSem.pure (rgetE_ac l O[k]) (by simp [go_sem]) ?_
          rw [hg]
          simp [go_sem, h0, h4, h5, h6, hlt]
          refine AWp.drawAll rfl (by kernel_rfl) ?_
          simp [go_sem, h0, h4, h5, h6, hlt, hk]
          refine CalmThen.pure ac1 rfl ?_
          simp [go_sem, h0, h4, h5, h6, hlt, hk]
          refine CalmThen.pure ac2 rfl ?_
          simp [go_sem, h0, h4, h5, h6, hlt, hk, wrap_succ hlt hOm]
          exact ⟨O.length - (k + 1), by omega, k + 1, by omega, rfl, rfl⟩
        · simp [go_sem, h0, h4, h5, h6, hlt]
          refine CallSem.pure (heads_ac l ids hl (by omega)) (by simp [go_sem]) ?_
          have hHl : (headsOf l ids).length ≤ 100 := by have := headsOf_len l ids; omega
          generalize headsOf l ids = H at hhr hHl ⊢
          simp [go_sem]
          refine CallSem.pure (anc_ac l H hl (by omega)) (by simp [go_sem]) ?_
          rw [hhr]
          simp [go_sem, h4]
          refine CallSem.pure (same_ac ids ids) (by simp [go_sem]) ?_
          simp [go_sem]
          refine CallSem.pure live9_ac (by simp [go_sem]) ?_
          simp [go_sem]
          refine PostR.ret ?_
          simp [go_sem]
    · simp [go_sem, hD]
      refine CallSem.pure live9_ac (by simp [go_sem]) ?_
      simp [go_sem]
      refine PostR.ret ?_
      simp [go_sem]

end Go.Proofs.Ythlcncofhnkohaa
