/- Contracts of chapter 15: the reference's keys. No condition. -/
import Derived.Test.YtebggldlhohkpaaA1
namespace Go.Proofs.Ytebggldlhohkpaa
open Go Go.Abs
set_option linter.unusedSimpArgs false
def putOf (s : List EntD) (k : Int) (key : Bytes) : List EntD := if fok s ⟨k, key, 0⟩ = true then s else setOf s k key 0
theorem putOf_eq {s : List EntD} (h : ∀ x ∈ s, x.id = 0) (k : Int) (key : Bytes) : putOf s k key = setOf s k key 0 := by
  unfold putOf
  split
  case isFalse => rfl
  case isTrue hok =>
    have hlt := fok_lt hok
    have he := (fok_iff hlt).1 hok
    have hid := h _ (List.getElem_mem hlt)
    unfold setOf
    rw [if_pos hok]
    have : (⟨k, key, 0⟩ : EntD) = s[fidx s ⟨k, key, 0⟩] := by
      rcases hx : s[fidx s ⟨k, key, 0⟩] with ⟨a, b, c⟩
      rw [hx] at he hid
      simp only at he hid
      simp [he.1, he.2, hid]
    have hd : s.drop (fidx s ⟨k, key, 0⟩) = ⟨k, key, 0⟩ :: s.drop (fidx s ⟨k, key, 0⟩ + 1) := by
      rw [List.drop_eq_getElem_cons hlt]
      exact congrArg (· :: _) this.symm
    rw [← hd, List.take_append_drop]
theorem setOf_ids {s : List EntD} (h : ∀ x ∈ s, x.id = 0) (k : Int) (key : Bytes) : ∀ x ∈ setOf s k key 0, x.id = 0 := by
  intro x hx
  unfold setOf at hx
  rcases List.mem_append.1 hx with hx | hx
  · exact h x (List.mem_of_mem_take hx)
  · rcases List.mem_cons.1 hx with rfl | hx
    · rfl
    · exact h x (List.mem_of_mem_drop hx)
theorem keysOf_ids (e : Evt) : ∀ x ∈ keysOf e, x.id = 0 := by
  have h0 : ∀ x ∈ ([] : List EntD), x.id = 0 := by simp
  have h1 := setOf_ids h0 1 []
  have h2 := setOf_ids h1 3 []
  have h3 := setOf_ids h2 2 e.sender
  have h4 := setOf_ids h3 2 e.key
  have h5 := setOf_ids h4 4 []
  unfold keysOf
  split
  · exact h0
  · split
    · split
      · exact h5
      · exact h4
    · exact h3
set_option maxRecDepth 8000 in
set_option maxHeartbeats 4000000 in
theorem rput_ac (s : List EntD) (k : Int) (key : Bytes) (hsz : s.length ≤ 100000) : AC Try.prog 30 [ents s, I k, S key] (ents (putOf s k key)) := by
  refine AC.of_body Try.func30 rfl rfl Try.ntmps30 (congrArg Array.toList Try.results30) (by simp) (pures3 (pure_ents _) (pure_I _) (pure_S _)) (pureR_ents _) fun w S' => AWp.of_vc [65] ?_
  have hm : s.length ≤ maxLen := by unfold maxLen; omega
  simp [go_sem]
  refine AWp.loop_vc [65] (fun m s' => ∃ q : Nat, q ≤ s.length ∧ m = s.length - q ∧ s'.σ 0 = ents s ∧ s'.σ 1 = I k ∧ s'.σ 2 = S key ∧ s'.σ 7 = I q ∧ ∀ (j : Nat) e, j < q → s[j]? = some e → prec e ⟨k, key, 0⟩ = true) s.length ⟨0, by simp [go_sem]⟩ ?_
  rintro m s' ⟨q, hq, rfl, h0, h1, h2, h7, hno⟩
  have fin : (∀ e, s[q]? = some e → prec e ⟨k, key, 0⟩ = false) → fidx s ⟨k, key, 0⟩ = q := fun h => takeWhile_len _ s q hq hno h
  by_cases hlt : q < s.length
  · cases hp : prec s[q] ⟨k, key, 0⟩ with
    | true =>
      have go : q + 1 ≤ s.length ∧ ∀ (j : Nat) e, j < q + 1 → s[j]? = some e → prec e ⟨k, key, 0⟩ = true := ⟨hlt, below_step hlt hno hp⟩
      by_cases hk : s[q].kind < k
      · simp [go_sem, h0, h1, h2, h7, hlt, hk, wrap_succ hlt hm]
        exact ⟨s.length - (q + 1), by omega, q + 1, hlt, rfl, rfl, go.2⟩
      · have hp2 : s[q].kind = k ∧ Op.bytesLess s[q].key key = true := by
          unfold prec at hp
          simp only [hk, decide_false, Bool.false_or, Bool.and_eq_true, decide_eq_true_eq] at hp
          exact hp
        simp [go_sem, h0, h1, h2, h7, hlt, hp2.1, hp2.2, wrap_succ hlt hm]
        exact ⟨s.length - (q + 1), by omega, q + 1, hlt, rfl, rfl, go.2⟩
    | false =>
      have hf : fidx s ⟨k, key, 0⟩ = q := fin fun e he => by rw [List.getElem?_eq_getElem hlt] at he; cases he; exact hp
      have hiff := fok_iff (s := s) (x := ⟨k, key, 0⟩) (by rw [hf]; exact hlt)
      simp only [hf] at hiff
      have hp1 : ¬ s[q].kind < k := by
        intro hk; unfold prec at hp; simp [hk] at hp
      by_cases hk : s[q].kind = k
      · have hp2 : Op.bytesLess s[q].key key = false := by
          unfold prec at hp; simpa [hk] using hp
        by_cases hkey : s[q].key = key
        · have hok := hiff.2 ⟨hk, hkey⟩
          simp [go_sem, h0, h1, h2, h7, hlt, hp1, hk, hkey, bl_irrefl]
          refine PostR.ret ?_
          simp [go_sem, putOf, hok, hkey]
        · have hok : fok s ⟨k, key, 0⟩ = false := by
            cases hh : fok s ⟨k, key, 0⟩ with
            | false => rfl
            | true => exact (hkey (hiff.1 hh).2).elim
          simp [go_sem, h0, h1, h2, h7, hlt, hq, hp1, hk, hkey, hp2]
          refine ⟨⟨by omega, by omega⟩, ⟨by omega, by omega⟩, ⟨by omega, by omega⟩, ?_⟩
          refine PostR.retW [65] ?_ (.refl _)
          simp [go_sem, putOf, setOf, hf, hok, List.map_take, List.map_drop]
          exact List.take_of_length_le (by simp)
      · have hok : fok s ⟨k, key, 0⟩ = false := by
          cases hh : fok s ⟨k, key, 0⟩ with
          | false => rfl
          | true => exact (hk (hiff.1 hh).1).elim
        simp [go_sem, h0, h1, h2, h7, hlt, hq, hp1, hk]
        refine ⟨⟨by omega, by omega⟩, ⟨by omega, by omega⟩, ⟨by omega, by omega⟩, ?_⟩
        refine PostR.retW [65] ?_ (.refl _)
        simp [go_sem, putOf, setOf, hf, hok, List.map_take, List.map_drop]
        exact List.take_of_length_le (by simp)
  · have hf : fidx s ⟨k, key, 0⟩ = q := fin fun e he => by rw [List.getElem?_eq_none (by omega)] at he; cases he
    have hok : fok s ⟨k, key, 0⟩ = false := fok_out (by rw [hf]; exact hlt)
    simp [go_sem, h0, h1, h2, h7, hlt, hq]
    refine ⟨⟨by omega, by omega⟩, ⟨by omega, by omega⟩, ⟨by omega, by omega⟩, ?_⟩
    refine PostR.retW [65] ?_ (.refl _)
    simp [go_sem, putOf, setOf, hf, hok, List.map_take, List.map_drop]
    exact List.take_of_length_le (by simp)

set_option maxRecDepth 8000 in
set_option maxHeartbeats 4000000 in
theorem rkeys_ac (e : Evt) : AC Try.prog 13 [ev e] (ents (keysOf e)) := by
  refine AC.of_body Try.func13 rfl rfl Try.ntmps13 (congrArg Array.toList Try.results13) (by simp) (pures1 (pure_ev _)) (pureR_ents _) fun w S' => AWp.of_vc [] ?_
  have h1 := setOf_lenA [] 1 [] 0
  have h2 := setOf_lenA (setOf [] 1 [] 0) 3 [] 0
  have h3 := setOf_lenA (setOf (setOf [] 1 [] 0) 3 [] 0) 2 e.sender 0
  have h4 := setOf_lenA (setOf (setOf (setOf [] 1 [] 0) 3 [] 0) 2 e.sender 0) 2 e.key 0
  simp only [List.length_nil] at h1
  have z0 : ∀ x ∈ ([] : List EntD), x.id = 0 := by simp
  have z1 := setOf_ids z0 1 []
  have z2 := setOf_ids z1 3 []
  have z3 := setOf_ids z2 2 e.sender
  have z4 := setOf_ids z3 2 e.key
  by_cases hc : e.kind = 1
  · simp [go_sem, hc]
    refine PostR.retW [] (r0 := .v (.slice none 0 0)) (by simp [go_sem]) ?_
    simp [keysOf, hc]
    exact .nil _
  simp [go_sem, hc]
  refine CallSem.by (rput_ac [] 1 [] len0) ⟨.nil _, .refl _, .refl _, trivial⟩ (by simp [go_sem]) ?_
  rw [putOf_eq z0]
  simp [go_sem]
  refine CallSem.pure (rput_ac (setOf [] 1 [] 0) 3 [] (by omega)) (by simp [go_sem]) ?_
  rw [putOf_eq z1]
  simp [go_sem]
  refine CallSem.pure (rput_ac (setOf (setOf [] 1 [] 0) 3 [] 0) 2 e.sender (by omega)) (by simp [go_sem]) ?_
  rw [putOf_eq z2]
  by_cases hm : e.kind = 2
  · simp [go_sem, hm]
    refine CallSem.pure (rput_ac (setOf (setOf (setOf [] 1 [] 0) 3 [] 0) 2 e.sender 0) 2 e.key (by omega)) (by simp [go_sem]) ?_
    rw [putOf_eq z3]
    by_cases n3 : e.content.n = 3
    · simp [go_sem, n3]
      refine CallSem.pure (rput_ac (setOf (setOf (setOf (setOf [] 1 [] 0) 3 [] 0) 2 e.sender 0) 2 e.key 0) 4 [] (by omega)) (by simp [go_sem]) ?_
      rw [putOf_eq z4]
      simp [go_sem]
      refine PostR.ret ?_
      simp [go_sem, keysOf, hm, memOf, n3]
    by_cases n1 : e.content.n = 1
    · simp [go_sem, n1]
      refine CallSem.pure (rput_ac (setOf (setOf (setOf (setOf [] 1 [] 0) 3 [] 0) 2 e.sender 0) 2 e.key 0) 4 [] (by omega)) (by simp [go_sem]) ?_
      rw [putOf_eq z4]
      simp [go_sem]
      refine PostR.ret ?_
      simp [go_sem, keysOf, hm, memOf, n1]
    by_cases n2 : e.content.n = 2
    · simp [go_sem, n2]
      refine CallSem.pure (rput_ac (setOf (setOf (setOf (setOf [] 1 [] 0) 3 [] 0) 2 e.sender 0) 2 e.key 0) 4 [] (by omega)) (by simp [go_sem]) ?_
      rw [putOf_eq z4]
      simp [go_sem]
      refine PostR.ret ?_
      simp [go_sem, keysOf, hm, memOf, n2]
    simp [go_sem, n1, n2, n3]
    refine PostR.ret ?_
    simp [go_sem, keysOf, hm, memOf, n1, n2, n3]
  · simp [go_sem, hm]
    refine PostR.ret ?_
    simp [go_sem, keysOf, hc, hm]

end Go.Proofs.Ytebggldlhohkpaa
