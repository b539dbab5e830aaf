/- Plain laws of room states: Get, Set, Diff on valid states. No condition. -/
import Derived.Test.YtebggldlhohkpaaS8
namespace Go.Proofs.Ytebggldlhohkpaa
open Go Go.Abs
theorem prec_key {a b c : EntD} (h : a.kind = b.kind ∧ a.key = b.key) : prec a c = prec b c ∧ prec c a = prec c b := by
  simp only [prec, h.1, h.2, and_self]
theorem prec_ne {a b : EntD} (h : prec a b = true) : ¬ (a.kind = b.kind ∧ a.key = b.key) := fun hk => by
  rw [(prec_key hk).1, prec_irrefl] at h; cases h
theorem adj_pairwise {s : List EntD} : adj s = true ↔ s.Pairwise fun a b => prec a b = true := by
  induction s with
  | nil => simp [adj]
  | cons a s ih =>
    cases s with
    | nil => simp [adj]
    | cons b l =>
      rw [List.pairwise_cons]
      simp only [adj, Bool.and_eq_true, ih]
      constructor
      · rintro ⟨h1, h2⟩
        refine ⟨fun c hc => ?_, h2⟩
        rcases List.mem_cons.1 hc with rfl | hc
        · exact h1
        · exact prec_trans _ _ _ h1 ((List.pairwise_cons.1 h2).1 c hc)
      · rintro ⟨h1, h2⟩
        exact ⟨h1 b (by simp), h2⟩
theorem find_none {p : EntD → Bool} {l : List EntD} (h : ∀ e ∈ l, p e = false) : l.find? p = none := by
  rw [List.find?_eq_none]; intro x hx; simp [h x hx]
/-- A state cut where an entry belongs. -/
theorem cut {s : List EntD} (hs : adj s = true) (x : EntD) : ∃ p q, s = p ++ q ∧ p.length = fidx s x ∧ (∀ e ∈ p, prec e x = true) ∧
    ((fok s x = false ∧ ∀ e ∈ q, prec x e = true) ∨ ∃ e r, q = e :: r ∧ fok s x = true ∧ (e.kind = x.kind ∧ e.key = x.key) ∧ ∀ c ∈ r, prec x c = true) := by
  refine ⟨s.takeWhile (fun e => prec e x), s.dropWhile (fun e => prec e x), List.takeWhile_append_dropWhile.symm, rfl, fun e he => ?_, ?_⟩
  · have := List.all_takeWhile (p := fun e : EntD => prec e x) (l := s)
    rw [List.all_eq_true] at this
    exact this e he
  have hsplit : s = s.takeWhile (fun e => prec e x) ++ s.dropWhile (fun e => prec e x) := List.takeWhile_append_dropWhile.symm
  have hpw : (s.dropWhile (fun e => prec e x)).Pairwise fun a b => prec a b = true := by
    have h1 := adj_pairwise.1 hs
    rw [hsplit, List.pairwise_append] at h1
    exact h1.2.1
  cases hq : s.dropWhile (fun e => prec e x) with
  | nil =>
    refine .inl ⟨fok_out ?_, fun e h => by cases h⟩
    rw [hq, List.append_nil] at hsplit
    unfold fidx
    rw [← hsplit]; omega
  | cons e r =>
    rw [hq] at hpw
    have hlt : fidx s x < s.length := by
      have h1 := congrArg List.length hsplit
      rw [hq, List.length_append, List.length_cons] at h1
      unfold fidx; omega
    have hat : s[fidx s x] = e := by
      have h1 : s[fidx s x]? = some e := by
        unfold fidx
        conv => lhs; lhs; rw [hsplit]
        rw [hq, List.getElem?_append_right (Nat.le_refl _), Nat.sub_self]; rfl
      rw [List.getElem?_eq_getElem hlt] at h1
      simpa using h1
    have hne := fidx_at hlt
    rw [hat] at hne
    by_cases hk : fok s x = true
    · have := (fok_iff hlt).1 hk
      rw [hat] at this
      exact .inr ⟨e, r, rfl, hk, this, fun c hc => by rw [← (prec_key this).1]; exact (List.pairwise_cons.1 hpw).1 c hc⟩
    · have hxe : prec x e = true := by
        cases hh : prec x e with
        | true => rfl
        | false =>
          have := prec_total _ _ hne hh
          exact (hk ((fok_iff hlt).2 (by rw [hat]; exact this))).elim
      refine .inl ⟨by simpa using hk, fun c hc => ?_⟩
      rcases List.mem_cons.1 hc with rfl | hc
      · exact hxe
      · exact prec_trans _ _ _ hxe ((List.pairwise_cons.1 hpw).1 c hc)
theorem isKey_prec {k : Int} {key : Bytes} {e : EntD} (h : prec e ⟨k, key, 0⟩ = true ∨ prec ⟨k, key, 0⟩ e = true) : isKey k key e = false := by
  cases hh : isKey k key e with
  | false => rfl
  | true =>
    have hk := isKey_iff.1 hh
    rcases h with h | h
    · exact (prec_ne h hk).elim
    · exact (prec_ne h ⟨hk.1.symm, hk.2.symm⟩).elim
theorem getOf_eq {s : List EntD} (hs : adj s = true) (k : Int) (key : Bytes) : getOf s k key = rgetOf s k key := by
  obtain ⟨p, q, hpq, hl, hp, h⟩ := cut hs ⟨k, key, 0⟩
  have hfp : p.find? (isKey k key) = none := find_none fun e he => isKey_prec (.inl (hp e he))
  unfold getOf rgetOf
  rcases h with ⟨hf, hq⟩ | ⟨e, r, rfl, hf, hk, hr⟩
  · have hfq : q.find? (isKey k key) = none := find_none fun e he => isKey_prec (.inr (hq e he))
    have : s.find? (isKey k key) = none := by rw [hpq, List.find?_append, hfp, hfq]; rfl
    simp [hf, this]
  · have h1 : s.find? (isKey k key) = some e := by
      rw [hpq, List.find?_append, hfp, List.find?_cons, isKey_iff.2 hk]; rfl
    have h2 : s[fidx s ⟨k, key, 0⟩]? = some e := by
      rw [← hl]
      conv => lhs; lhs; rw [hpq]
      rw [List.getElem?_append_right (Nat.le_refl _), Nat.sub_self]; rfl
    simp [hf, h1, h2]
/-- What Set makes of a valid state. -/
theorem setOf_cut {s : List EntD} (hs : adj s = true) (k : Int) (key : Bytes) (id : Int) : ∃ p r, setOf s k key id = p ++ ⟨k, key, id⟩ :: r ∧ (s = p ++ r ∨ ∃ e, s = p ++ e :: r ∧ e.kind = k ∧ e.key = key) ∧ (∀ e ∈ p, prec e ⟨k, key, 0⟩ = true) ∧ ∀ e ∈ r, prec ⟨k, key, 0⟩ e = true := by
  obtain ⟨p, q, hpq, hl, hp, h⟩ := cut hs ⟨k, key, 0⟩
  have htake : s.take (fidx s ⟨k, key, 0⟩) = p := by
    rw [← hl, hpq]; exact List.take_left
  have hdrop : s.drop (fidx s ⟨k, key, 0⟩) = q := by
    rw [← hl, hpq]; exact List.drop_left
  unfold setOf
  rcases h with ⟨hf, hq⟩ | ⟨e, r, rfl, hf, hk, hr⟩
  · refine ⟨p, q, ?_, .inl hpq, hp, hq⟩
    rw [htake, hf]; simp [hdrop]
  · refine ⟨p, r, ?_, .inr ⟨e, hpq, hk.1, hk.2⟩, hp, hr⟩
    rw [htake, hf, if_pos rfl, ← List.drop_drop, hdrop]; rfl
theorem adj_set {s : List EntD} (hs : adj s = true) (k : Int) (key : Bytes) (id : Int) : adj (setOf s k key id) = true := by
  obtain ⟨p, r, he, hor, hp, hr⟩ := setOf_cut hs k key id
  rw [he, adj_pairwise, List.pairwise_append, List.pairwise_cons]
  have hx : ∀ c : EntD, prec ⟨k, key, id⟩ c = prec ⟨k, key, 0⟩ c ∧ prec c ⟨k, key, id⟩ = prec c ⟨k, key, 0⟩ := fun c => prec_key ⟨rfl, rfl⟩
  have hsub : p.Pairwise (fun a b => prec a b = true) ∧ r.Pairwise (fun a b => prec a b = true) := by
    have h1 := adj_pairwise.1 hs
    rcases hor with h | ⟨e, h, _⟩
    · rw [h, List.pairwise_append] at h1; exact ⟨h1.1, h1.2.1⟩
    · rw [h, List.pairwise_append, List.pairwise_cons] at h1; exact ⟨h1.1, h1.2.1.2⟩
  refine ⟨hsub.1, ⟨fun c hc => by rw [(hx c).1]; exact hr c hc, hsub.2⟩, fun a ha b hb => ?_⟩
  rcases List.mem_cons.1 hb with rfl | hb
  · rw [(hx a).2]; exact hp a ha
  · exact prec_trans _ _ _ (hp a ha) (hr b hb)
theorem set_get {s : List EntD} (hs : adj s = true) (k : Int) (key : Bytes) (id : Int) : getOf (setOf s k key id) k key = some id := by
  rw [getOf_eq (adj_set hs k key id)]
  obtain ⟨p, r, he, _, hp, _⟩ := setOf_cut hs k key id
  have hfp : p.find? (isKey k key) = none := find_none fun e he => isKey_prec (.inl (hp e he))
  unfold rgetOf
  rw [he, List.find?_append, hfp, List.find?_cons, show isKey k key ⟨k, key, id⟩ = true from isKey_iff.2 ⟨rfl, rfl⟩]; rfl
theorem set_other {s : List EntD} (hs : adj s = true) (k : Int) (key : Bytes) (id : Int) {k' : Int} {key' : Bytes} (h : ¬ (k = k' ∧ key = key')) : getOf (setOf s k key id) k' key' = getOf s k' key' := by
  rw [getOf_eq (adj_set hs k key id), getOf_eq hs]
  obtain ⟨p, r, he, hor, _, _⟩ := setOf_cut hs k key id
  have h1 : isKey k' key' ⟨k, key, id⟩ = false := by
    cases hh : isKey k' key' ⟨k, key, id⟩ with
    | false => rfl
    | true => exact (h (isKey_iff.1 hh)).elim
  unfold rgetOf
  rw [he, List.find?_append, List.find?_cons, h1]
  rcases hor with hor | ⟨e, hor, hk, hkey⟩
  · rw [hor, List.find?_append]
  · have h2 : isKey k' key' e = false := by
      cases hh : isKey k' key' e with
      | false => rfl
      | true => have := isKey_iff.1 hh; exact (h ⟨by rw [← hk]; exact this.1, by rw [← hkey]; exact this.2⟩).elim
    rw [hor, List.find?_append, List.find?_cons, h2]
theorem check_zero {s : List EntD} : checkOf s = 0 ↔ adj s = true ∧ s.all goodE = true ∧ s.length ≤ 2000 := by
  unfold checkOf
  cases adj s <;> cases s.all goodE <;> simp
theorem allOf_eq {l : List (List EntD)} (h : ∀ s ∈ l, adj s = true) (e : EntD) : allOf l e = rallOf l e := by
  unfold allOf rallOf
  rw [Bool.eq_iff_iff, List.all_eq_true, List.all_eq_true]
  exact ⟨fun g s hs => by rw [← getOf_eq (h s hs)]; exact g s hs, fun g s hs => by rw [getOf_eq (h s hs)]; exact g s hs⟩
theorem diffOf_eq {a b : List EntD} (h : adj a = true) : diffOf a b = rdiffOf a b := by
  unfold diffOf rdiffOf
  congr 1
  funext e
  rw [getOf_eq h]
theorem diff_nil {a b : List EntD} : diffOf a b = [] ↔ ∀ e ∈ b, getOf a e.kind e.key = some e.id := by
  unfold diffOf
  rw [List.filter_eq_nil_iff]
  constructor
  · intro h e he; have := h e he; simpa using this
  · intro h e he; simp [h e he]
theorem get_self {s : List EntD} (hs : adj s = true) {e : EntD} (he : e ∈ s) : getOf s e.kind e.key = some e.id := by
  rw [getOf_eq hs]
  have hpw := adj_pairwise.1 hs
  clear hs
  induction s with
  | nil => cases he
  | cons a s ih =>
    rw [List.pairwise_cons] at hpw
    unfold rgetOf
    rcases List.mem_cons.1 he with rfl | he
    · rw [List.find?_cons, show isKey e.kind e.key e = true from isKey_iff.2 ⟨rfl, rfl⟩]; rfl
    · have : isKey e.kind e.key a = false := by
        cases hh : isKey e.kind e.key a with
        | false => rfl
        | true => exact (prec_ne (hpw.1 e he) (isKey_iff.1 hh)).elim
      rw [List.find?_cons, this]
      exact ih he hpw.2
theorem get_mem {s : List EntD} (hs : adj s = true) {k : Int} {key : Bytes} {id : Int} (h : getOf s k key = some id) : (⟨k, key, id⟩ : EntD) ∈ s := by
  rw [getOf_eq hs] at h
  unfold rgetOf at h
  obtain ⟨e, he, hid⟩ := Option.map_eq_some_iff.1 h
  have h1 := List.mem_of_find?_eq_some he
  have h2 := isKey_iff.1 (List.find?_some he)
  have : e = ⟨k, key, id⟩ := by cases e; simp_all
  rw [← this]; exact h1
theorem key_inj {s : List EntD} (hs : adj s = true) {a b : EntD} (ha : a ∈ s) (hb : b ∈ s) (hk : a.kind = b.kind ∧ a.key = b.key) : a = b := by
  have h1 := get_self hs ha
  have h2 := get_self hs hb
  rw [hk.1, hk.2, h2] at h1
  have : b.id = a.id := by simpa using h1
  cases a; cases b; simp_all
/-- Setting the entries of a difference. -/
theorem set_all {b : List EntD} (hb : adj b = true) : ∀ (d : List EntD) (t : List EntD), adj t = true → (∀ e ∈ d, e ∈ b) → (∀ e ∈ b, e ∈ d ∨ getOf t e.kind e.key = some e.id) → ∀ e ∈ b, getOf (d.foldl (fun t e => setOf t e.kind e.key e.id) t) e.kind e.key = some e.id
  | [], t, _, _, h, e, he => by
    rcases h e he with h | h
    · cases h
    · exact h
  | x :: d, t, ht, hd, h, e, he => by
    refine set_all hb d (setOf t x.kind x.key x.id) (adj_set ht _ _ _) (fun e he => hd e (by simp [he])) (fun e he => ?_) e he
    by_cases hk : x.kind = e.kind ∧ x.key = e.key
    · have := key_inj hb (hd x (by simp)) he hk
      subst this
      exact .inr (set_get ht _ _ _)
    · rcases h e he with h | h
      · rcases List.mem_cons.1 h with rfl | h
        · exact (hk ⟨rfl, rfl⟩).elim
        · exact .inl h
      · exact .inr (by rw [set_other ht _ _ _ hk]; exact h)
end Go.Proofs.Ytebggldlhohkpaa
