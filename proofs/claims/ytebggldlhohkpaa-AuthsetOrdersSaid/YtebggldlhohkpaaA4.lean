/- Contracts of chapter 15: both Selects. No condition. -/
import Derived.Test.YtebggldlhohkpaaA3
namespace Go.Proofs.Ytebggldlhohkpaa
open Go Go.Abs
set_option linter.unusedSimpArgs false
def hits (s : List EntD) (L : List EntD) : List Int := L.filterMap fun k => rgetOf s k.kind k.key
theorem hits_succ {s L : List EntD} {q : Nat} (h : q < L.length) : hits s (L.take (q + 1)) = hits s (L.take q) ++ (rgetOf s L[q].kind L[q].key).toList := by
  unfold hits
  rw [List.take_succ_eq_append_getElem h, List.filterMap_append]
  simp only [List.filterMap_cons, List.filterMap_nil]
  cases rgetOf s L[q].kind L[q].key <;> rfl
theorem hits_len (s : List EntD) (L : List EntD) : (hits s L).length ≤ L.length := List.length_filterMap_le _ _
def selOf (e : Evt) (s : List EntD) : List Int := sortedL (hits s (keysOf e))
theorem rget_some {s : List EntD} {k : Int} {key : Bytes} {j : Nat} (hj : j < s.length) (hno : ∀ (i : Nat) x, i < j → s[i]? = some x → isKey k key x = false) (hp : isKey k key s[j] = true) : rgetOf s k key = some s[j].id := by
  unfold rgetOf
  rw [List.find?_eq_some_iff_getElem.2 ⟨hp, j, hj, rfl, fun i hi => ?_⟩]
  · rfl
  · simp [hno i _ hi (List.getElem?_eq_getElem (by omega))]
theorem rget_none {s : List EntD} {k : Int} {key : Bytes} (hno : ∀ (i : Nat) x, i < s.length → s[i]? = some x → isKey k key x = false) : rgetOf s k key = none := by
  unfold rgetOf
  rw [List.find?_eq_none.2 fun x hx => ?_]
  · rfl
  · obtain ⟨i, hi, rfl⟩ := List.mem_iff_getElem.1 hx
    simp [hno i _ hi (List.getElem?_eq_getElem hi)]
set_option maxRecDepth 8000 in
set_option maxHeartbeats 4000000 in
theorem sel_ac (e : Evt) (s : List EntD) : AC Try.prog 16 [ev e, ents s] (ints (selOf e s)) := by
  refine AC.of_body Try.func16 rfl rfl Try.ntmps16 (congrArg Array.toList Try.results16) (by simp) (pures2 (pure_ev _) (pure_ents _)) (pureR_ints _) fun w S' => AWp.bound 1 rfl fun hlen => AWp.of_vc [] ?_
  rw [ents_len] at hlen
  have hle := keysOf_len e
  have hm : (keysOf e).length ≤ maxLen := by unfold maxLen; omega
  unfold selOf
  generalize hL : keysOf e = L at hle hm ⊢
  simp [go_sem]
  refine CallSem.pure (keysP_ac e) (by simp [go_sem]) ?_
  rw [hL]
  simp [go_sem]
  refine AWp.ownNil 6 3 1 (by simp [go_sem]) ?_
  refine AWp.loop_vc [] (fun m s' => ∃ q v : Nat, q ≤ L.length ∧ m = L.length - q ∧ s'.σ 1 = ents s ∧ s'.σ 5 = .fn (.func 31) [] [] ∧ s'.σ 12 = kps L ∧ s'.σ 13 = I L.length ∧ s'.σ 14 = I q ∧ s'.σ 6 = .ref 6 v ∧ s'.ver 6 = v ∧ s'.h 6 = .arr 3 1 ((hits s (L.take q)).map I)) L.length ⟨0, 1, by simp [go_sem, hits]⟩ ?_
  rintro m s' ⟨q, v, hq, rfl, h1, h5, h12, h13, h14, h6, hv6, hh6⟩
  by_cases hlt : q < L.length
  · simp [go_sem, h1, h5, h12, h13, h14, h6, hv6, hh6, hlt, wrap_succ hlt hm]
    refine AWp.loop_vc [] (fun m s'' => ∃ j v8 : Nat, j ≤ s.length ∧ m = s.length - j ∧ s''.σ 1 = ents s ∧ s''.σ 5 = .fn (.func 31) [] [] ∧ s''.σ 12 = kps L ∧ s''.σ 13 = I L.length ∧ s''.σ 14 = I q ∧ s''.σ 6 = .ref 6 v ∧ s''.ver 6 = v ∧ s''.h 6 = .arr 3 1 ((hits s (L.take q)).map I) ∧ s''.σ 18 = ents s ∧ s''.σ 19 = I s.length ∧ s''.σ 20 = I j ∧ s''.σ 8 = .rptr 8 v8 0 0 ∧ s''.ver 8 = v8 ∧ s''.h 8 = .box (kenc L[q]) ∧ ∀ (i : Nat) x, i < j → s[i]? = some x → isKey L[q].kind L[q].key x = false) s.length ⟨0, s'.ver 8 + 1, by simp [go_sem, h1, h5, h12, h13, h14, h6, hv6, hh6]⟩ ?_
    clear h1 h5 h12 h13 h14 h6 hv6 hh6
    rintro m s'' ⟨j, v8, hj, rfl, h1, h5, h12, h13, h14, h6, hv6, hh6, h18, h19, h20, h8, hv8, hh8, hno⟩
    have hhl := hits_len s (L.take q)
    rw [List.length_take] at hhl
    have hsu := hits_succ (s := s) hlt
    by_cases hjl : j < s.length
    · simp [go_sem, h1, h5, h12, h13, h14, h6, hv6, hh6, h18, h19, h20, h8, hv8, hh8, hjl]
      refine CallSem.pure (at_ac L[q] s[j]) (by simp [go_sem]) ?_
      cases hp : isKey L[q].kind L[q].key s[j] with
      | true =>
        rw [rget_some hjl hno hp] at hsu
        simp [go_sem, h1, h5, h12, h13, h14, h6, hv6, hh6, h18, h19, h20, h8, hv8, hh8, hjl, wrap_succ hlt hm]
        exact ⟨⟨by omega, by omega⟩, L.length - (q + 1), by omega, q + 1, by omega, rfl, rfl, by rw [hsu]; simp [I]⟩
      | false =>
        simp [go_sem, h1, h5, h12, h13, h14, h6, hv6, hh6, h18, h19, h20, h8, hv8, hh8, hjl, wrap_succ hjl hlen]
        exact ⟨s.length - (j + 1), by omega, j + 1, by omega, rfl, rfl, below_step hjl hno hp⟩
    · simp [go_sem, h1, h5, h12, h13, h14, h6, hv6, hh6, h18, h19, h20, h8, hv8, hh8, hjl, wrap_succ hlt hm]
      rw [rget_none fun i x hi hx => hno i x (by omega) hx] at hsu
      exact ⟨L.length - (q + 1), by omega, q + 1, by omega, rfl, rfl, by rw [hsu]; simp⟩
  · simp [go_sem, h1, h5, h12, h13, h14, h6, hv6, hh6, hlt]
    rw [List.take_of_length_le (by omega)] at hh6
    refine CallSem.freeze 6 ?_
    simp [go_sem, h6, hv6, hh6]
    have hhl := hits_len s L
    refine CallSem.pure (numSorted_ac (hits s L) (by omega)) (by simp [go_sem]) ?_
    simp [go_sem]
    refine PostR.ret ?_
    simp [go_sem, sortedSet_eq]

theorem sortedL_snoc (l : List Int) (x : Int) : sortedL (l ++ [x]) = putL (sortedL l) x := by
  unfold sortedL
  rw [List.foldl_append]; rfl
set_option maxRecDepth 8000 in
set_option maxHeartbeats 4000000 in
theorem rsel_ac (e : Evt) (s : List EntD) : AC Try.prog 17 [ev e, ents s] (ints (selOf e s)) := by
  refine AC.of_body Try.func17 rfl rfl Try.ntmps17 (congrArg Array.toList Try.results17) (by simp) (pures2 (pure_ev _) (pure_ents _)) (pureR_ints _) fun w S' => AWp.bound 1 rfl fun hlen => AWp.of_vc [] ?_
  rw [ents_len] at hlen
  have hle := keysOf_len e
  have hm : (keysOf e).length ≤ maxLen := by unfold maxLen; omega
  unfold selOf
  generalize hL : keysOf e = L at hle hm ⊢
  simp [go_sem]
  refine CallSem.pure (rkeys_ac e) (by simp [go_sem]) ?_
  rw [hL]
  simp [go_sem]
  refine AWp.loop_vc [] (fun m s' => ∃ q : Nat, q ≤ L.length ∧ m = L.length - q ∧ s'.σ 1 = ents s ∧ s'.σ 5 = ents L ∧ s'.σ 6 = ints (sortedL (hits s (L.take q))) ∧ s'.σ 7 = I q) L.length ⟨0, by simp [go_sem, hits, sortedL]⟩ ?_
  rintro m s' ⟨q, hq, rfl, h1, h5, h6, h7⟩
  by_cases hlt : q < L.length
  · simp [go_sem, h1, h5, h6, h7, hlt, wrap_succ hlt hm]
    have hhl := hits_len s (L.take q)
    rw [List.length_take] at hhl
    have hsu := hits_succ (s := s) hlt
    refine AWp.loop_vc [] (fun m s'' => ∃ (j : Nat) (f : Bool), j ≤ s.length ∧ m = (if f = true then 0 else s.length - j + 1) ∧ s''.σ 1 = ents s ∧ s''.σ 5 = ents L ∧ s''.σ 7 = I q ∧ s''.σ 8 = B f ∧ s''.σ 9 = I j ∧
      s''.σ 6 = ints (sortedL (if f = true then hits s (L.take (q + 1)) else hits s (L.take q))) ∧ (f = false → ∀ (i : Nat) x, i < j → s[i]? = some x → isKey L[q].kind L[q].key x = false)) (s.length + 1) ⟨0, false, by simp [go_sem, h1, h5, h6, h7]⟩ ?_
    clear h1 h5 h6 h7
    rintro m s'' ⟨j, f, hj, rfl, h1, h5, h7, h8, h9, h6, hno⟩
    cases f with
    | true =>
      simp at h6
      by_cases hjl : j < s.length
      · simp [go_sem, h1, h5, h6, h7, h8, h9, hjl, wrap_succ hlt hm]
        exact ⟨L.length - (q + 1), by omega, q + 1, by omega, rfl, rfl, rfl⟩
      · simp [go_sem, h1, h5, h6, h7, h8, h9, hjl, wrap_succ hlt hm]
        exact ⟨L.length - (q + 1), by omega, q + 1, by omega, rfl, rfl, rfl⟩
    | false =>
      simp at h6
      have hno := hno rfl
      by_cases hjl : j < s.length
      · simp [go_sem, h1, h5, h6, h7, h8, h9, hjl, wrap_succ hlt hm]
        refine AWp.drawAll rfl (by kernel_rfl) ?_
        simp [go_sem, h1, h5, h6, h7, h8, h9, hjl, hlt]
        cases hp : isKey L[q].kind L[q].key s[j] with
        | true =>
          have hq2 := isKey_iff.1 hp
          rw [rget_some hjl hno hp] at hsu
          simp [go_sem, h1, h5, h6, h7, h8, h9, hjl, hlt, hq2.1, hq2.2]
          refine CallSem.pure (put_ac _ s[j].id (by have := foldl_putL_len (hits s (L.take q)) []; simp only [List.length_nil] at this; show (List.foldl putL [] _).length ≤ _; omega)) (by simp [go_sem]) ?_
          simp [go_sem, h1, h5, h6, h7, h8, h9, hjl, hlt, wrap_succ hjl hlen]
          exact ⟨0, by omega, j + 1, by omega, rfl, rfl, by rw [hsu]; simp [sortedL_snoc]⟩
        | false =>
          have hback : ∀ st : St, True := fun _ => trivial
          by_cases hk : s[j].kind = L[q].kind
          · have hkey : ¬ s[j].key = L[q].key := fun h => by rw [isKey_iff.2 ⟨hk, h⟩] at hp; cases hp
            simp [go_sem, h1, h5, h6, h7, h8, h9, hjl, hlt, hk, hkey, wrap_succ hjl hlen]
            exact ⟨s.length - (j + 1) + 1, by omega, j + 1, by omega, rfl, rfl, below_step hjl hno hp⟩
          · simp [go_sem, h1, h5, h6, h7, h8, h9, hjl, hlt, hk, wrap_succ hjl hlen]
            exact ⟨s.length - (j + 1) + 1, by omega, j + 1, by omega, rfl, rfl, below_step hjl hno hp⟩
      · rw [rget_none fun i x hi hx => hno i x (by omega) hx] at hsu
        simp [go_sem, h1, h5, h6, h7, h8, h9, hjl, wrap_succ hlt hm]
        exact ⟨L.length - (q + 1), by omega, q + 1, by omega, rfl, by rw [hsu]; simp, rfl⟩
  · rw [List.take_of_length_le (by omega)] at h6
    simp [go_sem, h1, h5, h6, h7, hlt]
    refine PostR.ret ?_
    simp [go_sem]

end Go.Proofs.Ytebggldlhohkpaa
