/- Contracts of chapter 19: the power event of an event, the reference's way. No condition. -/
import Derived.Test.YtmkchaiijfhnfaaS4
import Derived.Test.YtmkchaiijfhnfaaE1
import Derived.Test.YtmkchaiijfhnfaaU3
namespace Go.Proofs.Ytmkchaiijfhnfaa
open Go Go.Abs
set_option linter.unusedSimpArgs false
def isPow (o : Option Evt) : Bool :=
  match o with
  | none => false
  | some x => decide (x.kind = 3)
def powT (l : List Evt) (id : Int) : Bool := isPow (getE l id)
def powE (l : List Evt) (e : Evt) : Option Int := e.auth.find? (powT l)
def optI (o : Option Int) : AV := .tup [I (o.getD 0), B o.isSome]
theorem pureR_optI (o : Option Int) : PureR (optI o) := by
  intro r hr
  simp only [List.mem_cons, List.not_mem_nil, or_false] at hr
  rcases hr with rfl | rfl
  · exact pure_I _
  · exact pure_B _
attribute [go_sem] optI
theorem find_some {α : Type} {l : List α} {p : α → Bool} {j : Nat} (hj : j < l.length) (hno : ∀ (i : Nat) x, i < j → l[i]? = some x → p x = false) (hp : p l[j] = true) : l.find? p = some l[j] :=
  List.find?_eq_some_iff_getElem.2 ⟨hp, j, hj, rfl, fun i hi => by simp [hno i _ hi (List.getElem?_eq_getElem (by omega))]⟩
theorem find_no {α : Type} {l : List α} {p : α → Bool} (hno : ∀ (i : Nat) x, i < l.length → l[i]? = some x → p x = false) : l.find? p = none := by
  refine List.find?_eq_none.2 fun x hx => ?_
  obtain ⟨i, hi, rfl⟩ := List.mem_iff_getElem.1 hx
  simp [hno i _ hi (List.getElem?_eq_getElem hi)]
set_option maxRecDepth 8000 in
set_option maxHeartbeats 4000000 in
theorem rpow_ac (l : List Evt) (e : Evt) (hsz : e.auth.length ≤ 100000) : AC Try.prog 22 [evs l, ev e] (optI (powE l e)) := by
  refine AC.of_body Try.func22 rfl rfl Try.ntmps22 (congrArg Array.toList Try.results22) (by simp) (pures2 (pure_evs _) (pure_ev _)) (pureR_optI _) fun w S' => AWp.of_vc [] ?_
  have hm : e.auth.length ≤ maxLen := by unfold maxLen; omega
  unfold powE
  simp [go_sem]
  refine AWp.loop_vc [] (fun m s => ∃ q : Nat, q ≤ e.auth.length ∧ m = e.auth.length - q ∧ s.σ 0 = evs l ∧ s.σ 3 = .eptr (evc e) 0 ∧ s.σ 6 = I q ∧ ∀ (j : Nat) x, j < q → e.auth[j]? = some x → powT l x = false) e.auth.length ⟨0, by simp [go_sem]⟩ ?_
  rintro m s ⟨q, hq, rfl, h0, h3, h6, hno⟩
  by_cases hlt : q < e.auth.length
  · simp [go_sem, h0, h3, h6, hlt]
    refine CallSem.pure (rgetE_ac l e.auth[q]) (by simp [go_sem]) ?_
    cases hg : getE l e.auth[q] with
    | none =>
      have hp : powT l e.auth[q] = false := by unfold powT; rw [hg]; rfl
      simp [go_sem, h0, h3, h6, hlt, wrap_succ hlt hm]
      exact ⟨e.auth.length - (q + 1), by omega, q + 1, by omega, rfl, rfl, below_step hlt hno hp⟩
    | some x =>
      by_cases hk : x.kind = 3
      · have hp : powT l e.auth[q] = true := by unfold powT; rw [hg]; exact decide_eq_true hk
        simp [go_sem, h0, h3, h6, hlt, hk]
        refine PostR.ret ?_
        rw [find_some hlt hno hp]
        simp [go_sem, optI]
      · have hp : powT l e.auth[q] = false := by unfold powT; rw [hg]; exact decide_eq_false hk
        simp [go_sem, h0, h3, h6, hlt, hk, wrap_succ hlt hm]
        exact ⟨e.auth.length - (q + 1), by omega, q + 1, by omega, rfl, rfl, below_step hlt hno hp⟩
  · simp [go_sem, h0, h3, h6, hlt]
    refine PostR.ret ?_
    rw [find_no fun i x hi hx => hno i x (by omega) hx]
    simp [go_sem, optI]

set_option maxRecDepth 8000 in
set_option maxHeartbeats 4000000 in
theorem pow_ac (l : List Evt) (e : Evt) (hsz : e.auth.length ≤ 100000) : AC Try.prog 35 [evs l, ev e] (optI (powE l e)) := by
  refine AC.of_body Try.func35 rfl rfl Try.ntmps35 (congrArg Array.toList Try.results35) (by simp) (pures2 (pure_evs _) (pure_ev _)) (pureR_optI _) fun w S' => AWp.of_vc [] ?_
  have hm : e.auth.length ≤ maxLen := by unfold maxLen; omega
  unfold powE
  simp [go_sem]
  refine AWp.loop_vc [] (fun m s => ∃ q : Nat, q ≤ e.auth.length ∧ m = e.auth.length - q ∧ s.σ 0 = evs l ∧ s.σ 11 = ints e.auth ∧ s.σ 12 = I e.auth.length ∧ s.σ 13 = I q ∧ ∀ (j : Nat) x, j < q → e.auth[j]? = some x → powT l x = false) e.auth.length ⟨0, by simp [go_sem]⟩ ?_
  rintro m s ⟨q, hq, rfl, h0, h3, h5, h6, hno⟩
  by_cases hlt : q < e.auth.length
  · simp [go_sem, h0, h3, h5, h6, hlt]
    refine CallSem.pure (sget_ac l e.auth[q]) (by simp [go_sem]) ?_
    cases hg : getE l e.auth[q] with
    | none =>
      have hp : powT l e.auth[q] = false := by unfold powT; rw [hg]; rfl
      simp [go_sem, h0, h3, h5, h6, hlt, wrap_succ hlt hm]
      exact ⟨e.auth.length - (q + 1), by omega, q + 1, by omega, rfl, rfl, below_step hlt hno hp⟩
    | some x =>
      by_cases hk : x.kind = 3
      · have hp : powT l e.auth[q] = true := by unfold powT; rw [hg]; exact decide_eq_true hk
        simp [go_sem, h0, h3, h5, h6, hlt, hk]
        refine PostR.ret ?_
        rw [find_some hlt hno hp]
        simp [go_sem, optI]
      · have hp : powT l e.auth[q] = false := by unfold powT; rw [hg]; exact decide_eq_false hk
        simp [go_sem, h0, h3, h5, h6, hlt, hk, wrap_succ hlt hm]
        exact ⟨e.auth.length - (q + 1), by omega, q + 1, by omega, rfl, rfl, below_step hlt hno hp⟩
  · simp [go_sem, h0, h3, h5, h6, hlt]
    refine PostR.ret ?_
    rw [find_no fun i x hi hx => hno i x (by omega) hx]
    simp [go_sem, optI]

def hasI (l : List Int) (n : Int) : Bool := l.contains n
/-- The way from an id, of at most n steps, but for what was seen. -/
def wayF (l : List Evt) : Nat → List Int → Int → List Int
  | 0, _, _ => []
  | n + 1, seen, id =>
    if hasI seen id = true then [] else
    match getE l id with
    | none => []
    | some e =>
      match powE l e with
      | none => [id]
      | some nx => id :: wayF l n (seen ++ [id]) nx
def wayOf (l : List Evt) (id : Int) : List Int := wayF l l.length [] id
/-- Moderate lists of references. -/
def Few (l : List Evt) : Prop := ∀ e ∈ l, e.auth.length ≤ 100000
theorem few_get {l : List Evt} (h : Few l) {id : Int} {e : Evt} (hg : getE l id = some e) : e.auth.length ≤ 100000 := h e (List.mem_of_find?_eq_some hg)
theorem wayF_len (l : List Evt) : ∀ (n : Nat) (seen : List Int) (id : Int), (wayF l n seen id).length ≤ n
  | 0, _, _ => Nat.le_refl _
  | n + 1, seen, id => by
    unfold wayF
    split
    · simp
    split
    · simp
    split
    · simp
    · have := wayF_len l n (seen ++ [id]) (by assumption)
      rw [List.length_cons]; omega
theorem contains_snoc (l : List Int) (a b : Int) : (l ++ [a]).contains b = (l.contains b || b == a) := by
  simp only [List.contains_eq_mem, List.mem_append, List.mem_singleton, Bool.decide_or]; rfl
set_option maxRecDepth 8000 in
set_option maxHeartbeats 4000000 in
theorem rway_ac (l : List Evt) (id : Int) (hsz : l.length ≤ 100000) (hf : Few l) : AC Try.prog 12 [evs l, I id] (ints (wayOf l id)) := by
  refine AC.of_body Try.func12 rfl rfl Try.ntmps12 (congrArg Array.toList Try.results12) (by simp) (pures2 (pure_evs _) (pure_I _)) (pureR_ints _) fun w S' => AWp.of_vc [12] ?_
  have hm : l.length ≤ maxLen := by unfold maxLen; omega
  simp [go_sem]
  refine AWp.loop_vc [] (fun m s => ∃ (q v : Nat) (seen : List Int) (cur : Int), q ≤ l.length ∧ m = l.length - q ∧ s.σ 0 = evs l ∧ s.σ 6 = I cur ∧ s.σ 7 = I q ∧ s.σ 5 = .ref 12 v ∧ s.ver 12 = v ∧ s.h 12 = .arr 3 1 (seen.map I) ∧ seen.length = q ∧ wayOf l id = seen ++ wayF l (l.length - q) seen cur) l.length ⟨0, 1, [], id, by simp [go_sem, wayOf]⟩ ?_
  rintro m s ⟨q, v, seen, cur, hq, rfl, h0, h6, h7, h5, hv5, hh5, hsl, hW⟩
  by_cases hlt : q < l.length
  · obtain ⟨n, hn⟩ : ∃ n, l.length - q = n + 1 := ⟨l.length - q - 1, by omega⟩
    rw [hn] at hW
    unfold wayF at hW
    simp [go_sem, h0, h6, h7, h5, hv5, hh5, hlt]
    refine CallSem.pure (rgetE_ac l cur) (by simp [go_sem]) ?_
    cases hg : getE l cur with
    | none =>
      have hE : wayOf l id = seen := by rw [hW, hg]; split <;> simp
      simp [go_sem, h0, h6, h7, h5, hv5, hh5, hlt]
      refine PostR.retW [12] ?_ (.refl _)
      simp [go_sem, h5, hv5, hh5, hE]
    | some e =>
      rw [hg] at hW
      simp [go_sem, h0, h6, h7, h5, hv5, hh5, hlt]
      refine CallSem.lent (r := B (hasI seen cur)) ?_ (flat_v _) (by simp [go_sem]) ?_
      · simp [go_sem, h5, hv5, hh5]
        exact has_ac seen cur
      cases hc : hasI seen cur with
      | true =>
        have hE : wayOf l id = seen := by rw [hW, hc]; simp
        simp [go_sem, h0, h6, h7, h5, hv5, hh5, hlt]
        refine PostR.retW [12] ?_ (.refl _)
        simp [go_sem, h5, hv5, hh5, hE]
      | false =>
        rw [hc] at hW
        simp [go_sem, h0, h6, h7, h5, hv5, hh5, hlt]
        refine ⟨⟨by omega, by omega⟩, ?_⟩
        refine CallSem.pure (rpow_ac l e (few_get hf hg)) (by simp [go_sem]) ?_
        cases hp : powE l e with
        | none =>
          have hE : wayOf l id = seen ++ [cur] := by rw [hW]; simp [hp]
          simp [go_sem, optI, h0, h6, h7, h5, hv5, hh5, hlt]
          refine PostR.retW [12] ?_ (.refl _)
          simp [go_sem, h5, hv5, hh5, hE]
        | some nx =>
          have hE : wayOf l id = (seen ++ [cur]) ++ wayF l (l.length - (q + 1)) (seen ++ [cur]) nx := by
            rw [hW, show l.length - (q + 1) = n by omega]; simp [hp]
          simp [go_sem, optI, h0, h6, h7, h5, hv5, hh5, hlt, wrap_succ hlt hm]
          exact ⟨l.length - (q + 1), by omega, q + 1, by omega, rfl, rfl, seen ++ [cur], by simp [I], by simp [hsl], hE⟩
  · have hE : wayOf l id = seen := by rw [hW, show l.length - q = 0 by omega]; simp [wayF]
    simp [go_sem, h0, h6, h7, h5, hv5, hh5, hlt]
    refine PostR.retW [12] ?_ (.refl _)
    simp [go_sem, h5, hv5, hh5, hE]

end Go.Proofs.Ytmkchaiijfhnfaa
