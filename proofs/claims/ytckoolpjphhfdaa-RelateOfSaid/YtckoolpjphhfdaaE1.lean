/- Contracts of the event lists: place, Get, and the reference's. No condition. -/
import Derived.Test.YtckoolpjphhfdaaTt
import Derived.Test.YtckoolpjphhfdaaTb
namespace Go.Proofs.Ytckoolpjphhfdaa
open Go Go.Abs
set_option linter.unusedSimpArgs false
universe u
variable {α : Type u}
theorem idxI_find {α : Type} (p : α → Bool) (l : List α) : (l.find? p = none ∧ idxI p l = -1) ∨ ∃ k, ∃ h : k < l.length, l.find? p = some l[k] ∧ idxI p l = (k : Int) := by
  unfold idxI
  cases h : l.findIdx? p with
  | none =>
    refine .inl ⟨?_, rfl⟩
    rw [List.find?_eq_none]
    rw [List.findIdx?_eq_none_iff] at h
    exact fun x hx => by simp [h x hx]
  | some k =>
    rw [List.findIdx?_eq_some_iff_getElem] at h
    obtain ⟨h1, h2, h3⟩ := h
    refine .inr ⟨k, h1, ?_, rfl⟩
    rw [List.find?_eq_some_iff_getElem]
    exact ⟨h2, k, h1, rfl, fun j hj => by simpa using h3 j hj⟩
theorem evs_len (l : List Evt) : (l.map ev).length = l.length := by simp
theorem evc_1' (x : Evt) : ((evc x).tail).take 1 = [S x.room] := rfl
attribute [go_sem] evc_1'
def evZ : Evt := ⟨0, [], [], 0, false, [], 0, 0, [], [], ⟨[], 0, 0, false, [], [], [], ⟨[], [], 0, 0, 0, 0, 0, 0, 0⟩⟩, 0, ⟨[], 0⟩⟩
def evZc : List AV := [I 0, S [], S [], I 0, B false, S [], I 0, I 0, .v (.slice none 0 0), .v (.slice none 0 0), S [], I 0, I 0, B false, S [], .v (.slice none 0 0), .v (.slice none 0 0), .v (.slice none 0 0), .v (.slice none 0 0), I 0, I 0, I 0, I 0, I 0, I 0, I 0, I 0, S [], I 0]
theorem wk_evZ : WkL0 evZc (evc evZ) := ⟨.refl _, .refl _, .refl _, .refl _, .refl _, .refl _, .refl _, .refl _, .nil _, .nil _, .refl _, .refl _, .refl _, .refl _, .refl _, .nil _, .nil _, .nil _, .nil _, .refl _, .refl _, .refl _, .refl _, .refl _, .refl _, .refl _, .refl _, .refl _, .refl _, trivial⟩
/-- An event as a literal makes it: an empty list is nil. -/
def nilOr (l : List α) (p : AV) : AV := match l with
  | [] => .v (.slice none 0 0)
  | _ :: _ => p
theorem wk_nilOr {sz : Nat} {f : α → AV} (l : List α) : Wk0 (nilOr l (.lst sz (l.map f))) (.lst sz (l.map f)) := by
  cases l with
  | nil => exact .nil _
  | cons x l => exact .refl _
def evL (x : Evt) : List AV := [I x.id, S x.room, S x.sender, I x.kind, B x.state, S x.key, I x.time, I x.depth, nilOr x.prev (ints x.prev), nilOr x.auth (ints x.auth),
  S x.content.text, I x.content.n, I x.content.target, B x.content.thread, S x.content.via, nilOr x.content.allow (strs x.content.allow), nilOr x.content.deny (strs x.content.deny), nilOr x.content.levels.users (.lst 2 (x.content.levels.users.map fun u => .agg (lvc u))), nilOr x.content.levels.kinds (.lst 2 (x.content.levels.kinds.map fun u => .agg (klc u))),
  I x.content.levels.user, I x.content.levels.message, I x.content.levels.state, I x.content.levels.invite, I x.content.levels.kick, I x.content.levels.ban, I x.content.levels.redact, I x.hash, S x.sig.server, I x.sig.sum]
theorem wk_evL (x : Evt) : WkL0 (evL x) (evc x) := ⟨.refl _, .refl _, .refl _, .refl _, .refl _, .refl _, .refl _, .refl _, wk_nilOr _, wk_nilOr _, .refl _, .refl _, .refl _, .refl _, .refl _, wk_nilOr _, wk_nilOr _, wk_nilOr _, wk_nilOr _, .refl _, .refl _, .refl _, .refl _, .refl _, .refl _, .refl _, .refl _, .refl _, .refl _, trivial⟩
theorem wk_evsL (l : List Evt) : Wk (.lst 29 (l.map fun x => .agg (evL x))) (evs l) := .lst (by simp) fun i x y hx hy => by
  simp only [List.getElem?_map, Option.map_eq_some_iff] at hx hy
  obtain ⟨e, he, rfl⟩ := hx
  obtain ⟨e', he', rfl⟩ := hy
  rw [he] at he'; cases he'
  exact wk_evL e
def getE (l : List Evt) (id : Int) : Option Evt := l.find? fun e => e.id == id
def optE (o : Option Evt) : AV := .tup [ev (o.getD evZ), B o.isSome]
theorem pureR_optE (o : Option Evt) : PureR (optE o) := by
  intro r hr
  simp only [List.mem_cons, List.not_mem_nil, or_false] at hr
  rcases hr with rfl | rfl
  · exact pure_ev _
  · exact pure_B _
attribute [go_sem] optE
theorem pure_clo {f : FuncId} {cap : List AV} (h : ∀ c ∈ cap, Pure c) : Pure (.fn (.func f) [] cap) := pure_fn (fun c h => by cases h) h
set_option maxRecDepth 8000 in
set_option maxHeartbeats 4000000 in
theorem indexFunc_gen (f : FuncId) (cap : List AV) (p : Evt → Bool) (hp : ∀ e, AC Try.prog f (ev e :: cap) (B (p e))) (hcap : ∀ c ∈ cap, Pure c) (l : List Evt) : AC Try.prog 40 [evs l, .fn (.func f) [] cap] (I (idxI p l)) := by
  refine AC.of_body Try.func40 rfl rfl Try.ntmps40 (congrArg Array.toList Try.results40) (by simp) (pures2 (pure_evs _) (pure_clo hcap)) (pure_I _) fun w S' => AWp.bound 0 rfl fun hlen => AWp.of_vc [] ?_
  rw [evs_len] at hlen
  simp [go_sem]
  refine AWp.loop_vc [] (fun m s => ∃ k : Nat, k ≤ l.length ∧ m = l.length - k ∧ s.σ 0 = evs l ∧ s.σ 1 = .fn (.func f) [] cap ∧ s.σ 7 = I l.length ∧ s.σ 8 = I k ∧ ∀ (j : Nat) e, j < k → l[j]? = some e → p e = false) l.length ⟨0, by simp [go_sem]⟩ ?_
  rintro m s ⟨k, hk, rfl, h0, h1, h7, h8, hno⟩
  by_cases hlt : k < l.length
  · simp [go_sem, h0, h1, h7, h8, hlt]
    refine CallSem.pure (hp l[k]) (by simp [go_sem]) ?_
    cases hpk : p l[k] with
    | true =>
      simp [go_sem, h0, h1, h7, h8, hlt]
      refine PostR.ret ?_
      simp [go_sem, idxI_hit hlt hpk hno]
    | false =>
      simp [go_sem, h0, h1, h7, h8, hlt, wrap_succ hlt hlen]
      refine ⟨l.length - (k + 1), by omega, k + 1, by omega, rfl, rfl, ?_⟩
      intro j e hj he
      rcases Nat.lt_succ_iff_lt_or_eq.1 hj with hj | rfl
      · exact hno j e hj he
      · rw [List.getElem?_eq_getElem hlt] at he; cases he; exact hpk
  · simp [go_sem, h0, h1, h7, h8, hlt]
    refine PostR.ret ?_
    have : idxI p l = -1 := idxI_miss fun j x hx => hno j x (by have := (List.getElem?_eq_some_iff.1 hx).1; omega) hx
    simp [go_sem, this]
end Go.Proofs.Ytckoolpjphhfdaa
