/- Contracts of chapter 19: loops over the way from an id. No condition. -/
import Derived.Test.YtmkchaiijfhnfaaM1
namespace Go.Proofs.Ytmkchaiijfhnfaa
open Go Go.Abs
set_option linter.unusedSimpArgs false
/-- The same memory below 19000. -/
def AgreeLow (s1 s2 : St) : Prop := ∀ id, id < 19000 → s2.ver id = s1.ver id ∧ s2.h id = s1.h id
/-- The same memory from 19998, but for the loop's record. -/
def AgreeHigh (s1 s2 : St) : Prop := ∀ id, 19998 ≤ id → id ≠ 19999 → s2.ver id = s1.ver id ∧ s2.h id = s1.h id
/-- What a round must come to: the loop's record and the iterator's own memory stay as they were. -/
def EachPostW (R V : Nat) (r : Loop) (s0 : St) (st : St) (Inv : St → Prop) (Q : Exit → St → Prop) : Exit → St → Prop
  | .normal, s => ((s.ver R = V ∧ s.h R = recB r .busy none) ∧ AgreeHigh s0 s) ∧ Inv (st.mem s)
  | .ret, s => (s.ver R = V ∧ s.h R = recB r .busy none) ∧ Q .ret (st.mem (s.setH R .none))
  | .exit id, s => (s.ver R = V ∧ s.h R = recB r .busy none) ∧ Q (.exit id) (st.mem (s.setH R .none))
  | _, _ => False
theorem w_epw_normal (R V : Nat) (r : Loop) (s0 : St) (st : St) (Inv : St → Prop) (Q : Exit → St → Prop) (s : St) : EachPostW R V r s0 st Inv Q .normal s = (((s.ver R = V ∧ s.h R = recB r .busy none) ∧ AgreeHigh s0 s) ∧ Inv (st.mem s)) := nrfl _
theorem w_epw_ret (R V : Nat) (r : Loop) (s0 : St) (st : St) (Inv : St → Prop) (Q : Exit → St → Prop) (s : St) : EachPostW R V r s0 st Inv Q .ret s = ((s.ver R = V ∧ s.h R = recB r .busy none) ∧ Q .ret (st.mem (s.setH R .none))) := nrfl _
theorem w_epw_exit (R V : Nat) (r : Loop) (s0 : St) (st : St) (Inv : St → Prop) (Q : Exit → St → Prop) (s : St) (id : Nat) : EachPostW R V r s0 st Inv Q (.exit id) s = ((s.ver R = V ∧ s.h R = recB r .busy none) ∧ Q (.exit id) (st.mem (s.setH R .none))) := nrfl _
attribute [go_sem ↓] w_epw_normal w_epw_ret w_epw_exit
theorem mem_put (st s : St) (d : Option Tmp) (x : AV) : st.mem (s.put d x) = st.mem s := by cases d <;> rfl
theorem put_setH (s : St) (d : Option Tmp) (x : AV) (R : Nat) (b : Blk) : (s.put d x).setH R b = (s.setH R b).put d x := by cases d <;> rfl
theorem mem_setH (si s : St) (R : Nat) (b : Blk) : (si.mem s).setH R b = si.mem (s.setH R b) := rfl
theorem mem_mem (st si s : St) : st.mem (si.mem s) = st.mem s := rfl
theorem setH_setH (s : St) (R : Nat) (a b : Blk) : (s.setH R a).setH R b = s.setH R b := by
  unfold St.setH
  congr 1
  funext j
  by_cases h : j = R <;> simp [upd, h]
theorem hasI_snoc (l : List Int) (a b : Int) : hasI (l ++ [a]) b = (hasI l b || b == a) := contains_snoc l a b
theorem len_sub {α : Type} : ∀ (a b : List α), a.Pairwise (· ≠ ·) → (∀ x ∈ a, x ∈ b) → a.length ≤ b.length
  | [], _, _, _ => Nat.zero_le _
  | x :: a, b, ha, h => by
    classical
    rw [List.pairwise_cons] at ha
    have hx := h x (List.mem_cons_self ..)
    have h1 := len_sub a (b.erase x) ha.2 fun y hy => (List.mem_erase_of_ne (fun hh => ha.1 y hy hh.symm)).2 (h y (List.mem_cons_of_mem _ hy))
    rw [List.length_erase_of_mem hx] at h1
    have : 0 < b.length := List.length_pos_of_mem hx
    rw [List.length_cons]; omega
/-- Different ids of known events. -/
def Seen (l : List Evt) (seen : List Int) : Prop := seen.Pairwise (· ≠ ·) ∧ ∀ x ∈ seen, x ∈ l.map (·.id)
theorem Seen.len {l : List Evt} {seen : List Int} (h : Seen l seen) : seen.length ≤ l.length := by
  have := len_sub _ _ h.1 h.2
  rwa [List.length_map] at this
theorem hasI_false {l : List Int} {x : Int} (h : hasI l x = false) : x ∉ l := by
  unfold hasI at h
  simpa using h
theorem getE_mem {l : List Evt} {id : Int} {e : Evt} (h : getE l id = some e) : id ∈ l.map (·.id) := by
  unfold getE at h
  have h1 := List.find?_some h
  have h2 : e.id = id := by simpa using h1
  exact List.mem_map.2 ⟨e, List.mem_of_find?_eq_some h, h2⟩
theorem Seen.snoc {l : List Evt} {seen : List Int} {id : Int} {e : Evt} (h : Seen l seen) (hn : hasI seen id = false) (hg : getE l id = some e) : Seen l (seen ++ [id]) := by
  refine ⟨List.pairwise_append.2 ⟨h.1, List.pairwise_singleton _ _, fun a ha b hb hab => ?_⟩, fun x hx => ?_⟩
  · simp only [List.mem_singleton] at hb
    subst hb; subst hab
    exact hasI_false hn ha
  · rcases List.mem_append.1 hx with hx | hx
    · exact h.2 x hx
    · simp only [List.mem_singleton] at hx
      subst hx
      exact getE_mem hg
set_option maxRecDepth 8000 in
set_option maxHeartbeats 4000000 in
theorem range_way {w0 : World} {S0 : Nat → Prop} {n : Nat} {e00 : Option Env} {st : St} {g : Operand} {ps : Array Tmp} {assign body : Code} {Q : Exit → St → Prop} {l : List Evt} {id : Int} (hf : Few l) (hl : l.length ≤ 100000)
    (hg : st.ev g = .fn (.func 33) [] [.rptr 19998 (st.ver 19998) 0 0, .eptr [evs l] 0]) (hB : st.h 19998 = .box [I id]) (hps1 : ps.size = 1) (hps : ∀ t ∈ ps.toList, t < n)
    (Inv : Nat → St → Prop) (low : ∀ k s1 s2, Inv k s1 → s2.σ = s1.σ → AgreeLow s1 s2 → Inv k s2) (h0 : Inv 0 st)
    (round : ∀ (k : Nat) (hk : k < (wayOf l id).length) (s1 : St) (l' : Nat) (r : Loop) (V : Nat) (e0 : Option Env), Inv k s1 → s1.σ = st.σ → s1.ver 19999 = V → s1.h 19999 = recB r .ready none →
      AWp ⟨Try.prog, w0, S0, n, some l', fun d => d, e0⟩ assign (PostAssign ⟨Try.prog, w0, S0, n, none, fun d => d, e00⟩ l' 19999 V r body (EachPostW 19999 V r s1 st (Inv (k + 1)) Q)) ⟨fillSlots st.σ ps.toList [I (wayOf l id)[k]], s1.ver, s1.h⟩)
    (done : ∀ s1, Inv (wayOf l id).length s1 → s1.σ = st.σ → Q .normal s1) : AWp ⟨Try.prog, w0, S0, n, none, fun d => d, e00⟩ (.rangeFunc g ps assign body) Q st := by
  have hm : l.length ≤ maxLen := by unfold maxLen; omega
  refine AWp.rangeFunc 19999 20000 rfl hg Try.func33 rfl rfl Try.ntmps33 (congrArg Array.toList Try.results33) (by simp) fun l' r e0 L => AWp.of_vc [5] ?_
  simp [go_sem]
  refine AWp.ownNil 4 3 1 (by simp [go_sem]) ?_
  refine AWp.loop_vc [] (fun m s' => ∃ (k v : Nat) (seen : List Int) (cur : Int), k ≤ l.length ∧ m = l.length + 1 - k ∧ s'.σ 0 = .v (.func (.yield l') #[] #[]) ∧ s'.σ 1 = .rptr 19998 (st.ver 19998) 0 0 ∧ s'.σ 2 = .eptr [evs l] 0 ∧ s'.σ 4 = .ref 20004 v ∧ s'.ver 20004 = v ∧ s'.h 20004 = .arr 3 1 (seen.map I) ∧
    s'.ver 19998 = st.ver 19998 ∧ s'.h 19998 = .box [I cur] ∧ s'.ver 19999 = st.ver 19999 + 1 ∧ s'.h 19999 = recB r .ready none ∧ seen.length = k ∧ Seen l seen ∧ wayOf l id = seen ++ wayF l (l.length - k) seen cur ∧ Inv k (st.mem s')) (l.length + 1) ⟨0, st.ver 20004 + 1, [], id, by simp, by simp, by simp [go_sem], by simp [go_sem], by simp [go_sem], by simp [go_sem], by simp [go_sem], by simp [go_sem], by simp [go_sem], by simp [go_sem, hB], by simp [go_sem], by simp [go_sem], rfl, ⟨List.Pairwise.nil, fun x hx => by cases hx⟩, rfl, low 0 st _ h0 rfl fun id h1 => ?_⟩ ?_
  · have a1 : ¬ id = 20004 := by omega
    have a2 : ¬ id = 19999 := by omega
    simp [go_sem, a1, a2]
  rintro m s' ⟨k, v, seen, cur, hk, rfl, g0, g1, g2, g4, gv, gh, gVB, gB, gV, gR, hsl, hSeen, hW, gI⟩
  have hne : ∀ d, ¬ d + 20000 = 19999 := fun d => by omega
  have hne' : ∀ d, ¬ 19999 = d + 20000 := fun d => by omega
  have fin : ∀ s : St, s.ver 19998 = st.ver 19998 → AgreeLow (st.mem s') s → seen.length = (wayOf l id).length → Q .normal (st.mem s) := fun s _ hag hlen => by
    have : Inv (wayOf l id).length (st.mem s) := by
      rw [← hlen, hsl]
      exact low _ _ _ gI rfl fun id h1 => hag id h1
    exact done _ this rfl
  simp [go_sem, g0, g1, g2, g4, gv, gh, gVB, gB, gV, gR]
  refine CallSem.lent (r := B (hasI seen cur)) ?_ (flat_v _) (by simp [go_sem]) ?_
  · simp [go_sem, g4, gv, gh]
    exact containsI_ac seen cur
  cases hc : hasI seen cur with
  | true =>
    have hE : wayOf l id = seen := by
      rw [hW]
      cases l.length - k <;> simp [wayF, hc]
    simp [go_sem, g0, g1, g2, g4, gv, gh, gVB, gB, gV, gR]
    refine .inl (fin _ ?_ (fun id h1 => ?_) (by rw [hE]))
    · simp [go_sem, gVB]
    · have a1 : ¬ id = 19999 := by omega
      simp [go_sem, a1]
  | false =>
    simp [go_sem, g0, g1, g2, g4, gv, gh, gVB, gB, gV, gR]
    refine CallSem.pure (sget_ac l cur) (by simp [go_sem]) ?_
    cases hge : getE l cur with
    | none =>
      have hE : wayOf l id = seen := by
        rw [hW]
        cases l.length - k <;> simp [wayF, hge]
      simp [go_sem, g0, g1, g2, g4, gv, gh, gVB, gB, gV, gR]
      refine .inl (fin _ ?_ (fun id h1 => ?_) (by rw [hE]))
      · simp [go_sem, gVB]
      · have a1 : ¬ id = 19999 := by omega
        have a2 : ¬ id = 20005 := by omega
        simp [go_sem, a1, a2]
    | some e =>
      have hkl : k < l.length := by
        have := (hSeen.snoc hc hge).len
        rw [List.length_append, hsl] at this
        simp at this; omega
      obtain ⟨n', hn'⟩ : ∃ n', l.length - k = n' + 1 := ⟨l.length - k - 1, by omega⟩
      have hstep : wayF l (l.length - k) seen cur = match powE l e with
          | none => [cur]
          | some nx => cur :: wayF l n' (seen ++ [cur]) nx := by
        rw [hn']
        show (if hasI seen cur = true then [] else match getE l cur with
          | none => []
          | some e => match powE l e with
            | none => [cur]
            | some nx => cur :: wayF l n' (seen ++ [cur]) nx) = _
        rw [hc, hge]; rfl
      have hkW : k < (wayOf l id).length := by
        rw [hW, hstep, List.length_append, hsl]
        cases powE l e <;> simp
      have hWk : (wayOf l id)[k] = cur := by
        have h1 : (wayOf l id)[k]? = some cur := by
          rw [hW, hstep, List.getElem?_append_right (by omega), hsl, Nat.sub_self]
          cases powE l e <;> rfl
        rw [List.getElem?_eq_getElem hkW] at h1
        exact Option.some.inj h1
      simp [go_sem, g0, g1, g2, g4, gv, gh, gVB, gB, gV, gR]
      refine YieldSem.round L (by simp [go_sem]) (by simp [hps1]) hps (by simp [go_sem, gV]) (by simp [go_sem, gR]) fun e0 => ?_
      have round' := fun s1 l' r V e0 => round k hkW s1 l' r V e0
      simp only [hWk] at round'
      refine AWp.mono (round' (st.mem _) l' r (st.ver 19999 + 1) e0 (low k _ _ gI rfl fun id h1 => ?_) rfl (by simp [go_sem, gV]) (by simp [go_sem, gR])) fun e1 s1 hpa => PostAssign.mono (fun e2 s2 h2 => ?_) hpa
      · have a1 : ¬ id = 20005 := by omega
        simp [go_sem, a1]
      cases e2 with
      | normal =>
        obtain ⟨⟨hcc, hhi⟩, hi⟩ := h2
        have b1 := hhi 19998 (by omega) (by omega)
        have b2 := hhi 20004 (by omega) (by omega)
        have b3 := hhi 20005 (by omega) (by omega)
        simp [go_sem, g0, g1, g2, g4, gv, gh, gVB, gB, gV, gR] at b1 b2 b3
        obtain ⟨b1v, b1h⟩ := b1
        obtain ⟨b2v, b2h⟩ := b2
        obtain ⟨b3v, b3h⟩ := b3
        refine ⟨hcc, ?_⟩
        have hsn := hSeen.snoc hc hge
        simp [go_sem, g0, g1, g2, g4, gv, gh, b1v, b1h, b2v, b2h, b3v, b3h, hsl]
        refine ⟨⟨by omega, by omega⟩, ?_⟩
        refine CallSem.pure (pow_ac l e (few_get hf hge)) (by simp [go_sem]) ?_
        cases hp : powE l e with
        | none =>
          have hE : wayOf l id = seen ++ [cur] := by rw [hW, hstep, hp]
          simp [go_sem, g0, g1, g2, g4, gv, gh, b1v, b1h, b2v, b2h, b3v, b3h]
          refine ⟨by rw [hcc.1], .inl ?_⟩
          have : Inv (wayOf l id).length (st.mem (s2.setH 19999 .none)) := by
            rw [hE, List.length_append, hsl]
            exact low _ _ _ hi rfl fun id h1 => by
              have a1 : ¬ id = 19999 := by omega
              simp [go_sem, a1]
          exact done _ (low _ _ _ this rfl fun id h1 => by
              have a1 : ¬ id = 19999 := by omega
              have a2 : ¬ id = 20004 := by omega
              have a3 : ¬ id = 19998 := by omega
              simp [go_sem, a1, a2, a3]) rfl
        | some nx =>
          have hE : wayOf l id = (seen ++ [cur]) ++ wayF l (l.length - (k + 1)) (seen ++ [cur]) nx := by
            rw [hW, hstep, hp, show l.length - (k + 1) = n' by omega]; simp
          simp [go_sem, g0, g1, g2, g4, gv, gh, b1v, b1h, b2v, b2h, b3v, b3h]
          refine ⟨l.length + 1 - (k + 1), by omega, k + 1, by omega, rfl, seen ++ [cur], by simp [I], by rw [hcc.1], by simp [hsl], hsn, by simpa using hE, low _ _ _ hi rfl fun id h1 => ?_⟩
          have a1 : ¬ id = 19999 := by omega
          have a2 : ¬ id = 20004 := by omega
          have a3 : ¬ id = 19998 := by omega
          simp [go_sem, a1, a2, a3]
      | ret =>
        obtain ⟨hcc, hi⟩ := h2
        refine ⟨hcc, ?_⟩
        simp [go_sem]
        refine ⟨by rw [hcc.1], .inr ⟨.ret, rfl, AWp.ret ?_⟩⟩
        simp only [mem_put, put_setH, mem_setH, mem_mem, setH_setH]
        exact hi
      | exit id =>
        obtain ⟨hcc, hi⟩ := h2
        refine ⟨hcc, ?_⟩
        simp [go_sem]
        refine ⟨by rw [hcc.1], .inr ⟨.exit id, rfl, AWp.exit ?_⟩⟩
        simp only [mem_put, put_setH, mem_setH, mem_mem, setH_setH]
        exact hi
      | _ => exact h2.elim
end Go.Proofs.Ytmkchaiijfhnfaa
