/- Contracts of chapter 36: latest, Sum. No condition. -/
import Derived.Test.YtckoolpjphhfdaaR5
namespace Go.Proofs.Ytckoolpjphhfdaa
open Go Go.Abs Go.Proofs
set_option linter.unusedSimpArgs false
set_option linter.unusedVariables false
attribute [go_sem] reactAV
/-- Is the second event the later one? -/
def laterE (x e : Evt) : Bool := decide (x.time < e.time ∨ (e.time = x.time ∧ x.id < e.id))
def latE (L : List Evt) (last : Int) (e : Evt) : Int :=
  match getE L last with
  | none => e.id
  | some x => if laterE x e = true then e.id else last
set_option maxRecDepth 8000 in
set_option maxHeartbeats 4000000 in
theorem latest_ac (L : List Evt) (last : Int) (e : Evt) : AC Try.prog 31 [evs L, I last, ev e] (I (latE L last e)) := by
  refine AC.of_body Try.func31 rfl rfl Try.ntmps31 (congrArg Array.toList Try.results31) (by simp) (pures3 (pure_evs _) (pure_I _) (pure_ev _)) (pure_I _) fun w S' => AWp.of_vc [] ?_
  unfold latE
  simp [go_sem]
  refine CallSem.pure (find_ac L last) (by simp [go_sem]) ?_
  cases hg : getE L last with
  | none =>
    simp [go_sem]
    refine PostR.ret ?_
    simp [go_sem]
  | some x =>
    unfold laterE
    by_cases h1 : x.time < e.time
    · simp [go_sem, h1]
      refine PostR.ret ?_
      simp [go_sem]
    · by_cases h2 : e.time = x.time
      · by_cases h3 : x.id < e.id
        · simp [go_sem, h1, h2, h3]
          refine PostR.ret ?_
          simp [go_sem]
        · simp [go_sem, h1, h2, h3]
          refine PostR.ret ?_
          simp [go_sem]
      · simp [go_sem, h1, h2]
        refine PostR.ret ?_
        simp [go_sem]
structure SumD where
  edit : Int
  pairs : Pairs
  thread : Int
  last : Int

def sumc (s : SumD) : List AV := [I s.edit, reactAV s.pairs, I s.thread, I s.last]
def sumAV (s : SumD) : AV := .agg (sumc s)
theorem pure_sumAV (s : SumD) : Pure (sumAV s) := pure_agg fun c hc => by
  simp only [sumc, List.mem_cons, List.not_mem_nil, or_false] at hc
  rcases hc with rfl | rfl | rfl | rfl <;> first | exact pure_v _ | exact pure_reactAV _
def sumStep (K : List Evt) (root : Evt) (id : Int) (a : Int × Int × Int) (e : Evt) : Int × Int × Int :=
  if (relE e).1 = 3 ∧ (relE e).2 = id then (if e.sender = root.sender then (latE K a.1 e, a.2.1, a.2.2) else a)
  else if (relE e).1 = 2 ∧ (relE e).2 = id then (a.1, a.2.1 + 1, latE K a.2.2 e) else a
def sumFold (K : List Evt) (root : Evt) (id : Int) (L : List Evt) : Int × Int × Int := L.foldl (sumStep K root id) (0, 0, 0)
theorem sum_succ {K L : List Evt} {k : Nat} (root : Evt) (id : Int) (hk : k < L.length) : sumFold K root id (L.take (k + 1)) = sumStep K root id (sumFold K root id (L.take k)) L[k] := by
  unfold sumFold; rw [List.take_succ_eq_append_getElem hk, List.foldl_append]; rfl
theorem sum_thread (K : List Evt) (root : Evt) (id : Int) (L : List Evt) : 0 ≤ (sumFold K root id L).2.1 ∧ (sumFold K root id L).2.1 ≤ L.length := by
  unfold sumFold
  suffices ∀ (L : List Evt) (a : Int × Int × Int), a.2.1 ≤ (L.foldl (sumStep K root id) a).2.1 ∧ (L.foldl (sumStep K root id) a).2.1 ≤ a.2.1 + L.length from by simpa using this L (0, 0, 0)
  intro L
  induction L with
  | nil => intro a; simp
  | cons e L ih =>
    intro a
    have h := ih (sumStep K root id a e)
    have : a.2.1 ≤ (sumStep K root id a e).2.1 ∧ (sumStep K root id a e).2.1 ≤ a.2.1 + 1 := by
      unfold sumStep
      split
      · split <;> (constructor <;> first | exact Int.le_refl _ | (show _ ≤ _ + 1; omega) | (simp; omega))
      · split <;> (constructor <;> first | exact Int.le_refl _ | (show _ ≤ _ + 1; omega) | (simp; omega))
    simp only [List.foldl_cons, List.length_cons]
    omega
def sumOf (l : List Evt) (id : Int) : SumD :=
  match getE (onceL l) id with
  | none => ⟨0, [], 0, 0⟩
  | some root => ⟨(sumFold (onceL l) root id (onceL l)).1, pairsL id (onceL l), (sumFold (onceL l) root id (onceL l)).2.1, (sumFold (onceL l) root id (onceL l)).2.2⟩
theorem onceL_len (l : List Evt) : (onceL l).length ≤ l.length := onceU_len l l.length
set_option maxRecDepth 8000 in
set_option maxHeartbeats 4000000 in
theorem sum_ac (l : List Evt) (id : Int) (hsz : l.length ≤ 100000) : AC Try.prog 15 [evs l, I id] (sumAV (sumOf l id)) := by
  refine AC.of_body Try.func15 rfl rfl Try.ntmps15 (congrArg Array.toList Try.results15) (by simp) (pures2 (pure_evs _) (pure_I _)) (pure_sumAV _) fun w S' => AWp.of_vc [] ?_
  simp [go_sem]
  refine CallSem.pure (known_ac l hsz) (by simp [go_sem]) ?_
  have hol := onceL_len l
  unfold sumOf
  generalize onceL l = K at hol ⊢
  have hm : K.length ≤ maxLen := by unfold maxLen; omega
  simp [go_sem]
  refine CallSem.pure (find_ac K id) (by simp [go_sem]) ?_
  cases hg : getE K id with
  | none =>
    simp [go_sem]
    refine PostR.retW [] (r0 := .agg [I 0, .v (.slice none 0 0), I 0, I 0]) (by simp [go_sem]) ?_
    exact .one (.one (.agg ⟨.refl _, .nil _, .refl _, .refl _, trivial⟩))
  | some root =>
    simp [go_sem]
    refine CallSem.pure (reactions_ac K id (by omega)) (by simp [go_sem]) ?_
    simp [go_sem]
    refine AWp.loop_vc [] (fun m s => ∃ k : Nat, k ≤ K.length ∧ m = K.length - k ∧ s.σ 0 = evs K ∧ s.σ 1 = I id ∧ s.σ 25 = evs K ∧ s.σ 26 = I K.length ∧ s.σ 27 = I k ∧ s.σ 5 = .rptr 5 1 0 0 ∧ s.ver 5 = 1 ∧ s.h 5 = .box (evc root) ∧ s.σ 4 = .rptr 4 1 0 0 ∧ s.ver 4 = 1 ∧ s.h 4 = .box [I 0, .v (.slice none 0 0), I 0, I 0] ∧ s.σ 7 = .rptr 7 1 0 0 ∧ s.ver 7 = 1 ∧ s.h 7 = .box [I (sumFold K root id (K.take k)).1, reactAV (pairsL id K), I (sumFold K root id (K.take k)).2.1, I (sumFold K root id (K.take k)).2.2]) K.length ⟨0, by simp [go_sem, sumFold]⟩ ?_
    rintro m s ⟨k, hk, rfl, h0, h1, h25, h26, h27, h5, hv5, hh5, h4, hv4, hh4, h7, hv7, hh7⟩
    by_cases hlt : k < K.length
    · have hsuc := sum_succ (K := K) root id hlt
      have hth := sum_thread K root id (K.take k)
      rw [List.length_take] at hth
      generalize sumFold K root id (K.take k) = a at hh7 hsuc hth
      obtain ⟨x, t, z⟩ := a
      simp only at hh7 hth
      have hwt : IntKind.i64.wrap (t + 1) = t + 1 := wrap_i64 (by omega) (by omega)
      simp [go_sem, h0, h1, h25, h26, h27, h5, hv5, hh5, h4, hv4, hh4, h7, hv7, hh7, hlt]
      refine CallSem.pure (rel_ac K[k]) (by simp [go_sem]) ?_
      unfold sumStep at hsuc
      by_cases hA : (relE K[k]).1 = 3 ∧ (relE K[k]).2 = id
      · rw [if_pos hA] at hsuc
        by_cases hs : K[k].sender = root.sender
        · rw [if_pos hs] at hsuc
          simp [go_sem, h0, h1, h25, h26, h27, h5, hv5, hh5, h4, hv4, hh4, h7, hv7, hh7, hlt, hA, hs]
          refine CallSem.pure (latest_ac K x K[k]) (by simp [go_sem]) ?_
          simp [go_sem, h0, h1, h25, h26, h27, h5, hv5, hh5, h4, hv4, hh4, h7, hv7, hh7, hlt, wrap_succ hlt hm]
          exact ⟨K.length - (k + 1), by omega, k + 1, by omega, rfl, rfl, by rw [hsuc], by rw [hsuc], by rw [hsuc]⟩
        · rw [if_neg hs] at hsuc
          simp [go_sem, h0, h1, h25, h26, h27, h5, hv5, hh5, h4, hv4, hh4, h7, hv7, hh7, hlt, hA, hs, wrap_succ hlt hm]
          exact ⟨K.length - (k + 1), by omega, k + 1, by omega, rfl, rfl, by rw [hsuc], by rw [hsuc], by rw [hsuc]⟩
      · rw [if_neg hA] at hsuc
        by_cases hB : (relE K[k]).1 = 2 ∧ (relE K[k]).2 = id
        · rw [if_pos hB] at hsuc
          simp [go_sem, h0, h1, h25, h26, h27, h5, hv5, hh5, h4, hv4, hh4, h7, hv7, hh7, hlt, hB, hwt]
          refine CallSem.pure (latest_ac K z K[k]) (by simp [go_sem]) ?_
          simp [go_sem, h0, h1, h25, h26, h27, h5, hv5, hh5, h4, hv4, hh4, h7, hv7, hh7, hlt, wrap_succ hlt hm]
          exact ⟨K.length - (k + 1), by omega, k + 1, by omega, rfl, rfl, by rw [hsuc], by rw [hsuc], by rw [hsuc]⟩
        · rw [if_neg hB] at hsuc
          simp [go_sem, h0, h1, h25, h26, h27, h5, hv5, hh5, h4, hv4, hh4, h7, hv7, hh7, hlt, hA, hB, wrap_succ hlt hm]
          exact ⟨K.length - (k + 1), by omega, k + 1, by omega, rfl, rfl, by rw [hsuc], by rw [hsuc], by rw [hsuc]⟩
    · obtain rfl : k = K.length := by omega
      rw [List.take_of_length_le (Nat.le_refl _)] at hh7
      simp [go_sem, h0, h1, h25, h26, h27, h5, hv5, hh5, h4, hv4, hh4, h7, hv7, hh7]
      refine PostR.ret ?_
      simp [go_sem, h0, h1, h25, h26, h27, h5, hv5, hh5, h4, hv4, hh4, h7, hv7, hh7, sumAV, sumc]

end Go.Proofs.Ytckoolpjphhfdaa
