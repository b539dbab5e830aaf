/- The data of room states: entries and lists of them; their order. No condition. -/
import Derived.Test.YtckoolpjphhfdaaTb
namespace Go.Abs
open Go Go.RowKit
structure EntD where
  kind : Int
  key : Bytes
  id : Int
  deriving DecidableEq
def enc (e : EntD) : List AV := [I e.kind, S e.key, I e.id]
def ent (e : EntD) : AV := .agg (enc e)
def ents (l : List EntD) : AV := .lst 3 (l.map ent)
def states (l : List (List EntD)) : AV := .lst 1 (l.map ents)
theorem pure_enc (d : EntD) : ∀ c ∈ enc d, Pure c := by
  intro c hc; simp only [enc, List.mem_cons, List.not_mem_nil, or_false] at hc; rcases hc with rfl | rfl | rfl <;> exact pure_v _
theorem pure_ent (d : EntD) : Pure (ent d) := pure_agg (pure_enc d)
theorem pure_ents (l : List EntD) : Pure (ents l) := pure_lst fun x hx c hc => by
  obtain ⟨n, _, rfl⟩ := List.mem_map.1 hx
  exact pure_enc n c hc
theorem pure_states (l : List (List EntD)) : Pure (states l) := pure_lst fun x hx c hc => by
  obtain ⟨n, _, rfl⟩ := List.mem_map.1 hx
  simp only [ents, AV.cells, List.mem_singleton] at hc; subst hc; exact pure_ents _
theorem okAll_ents (st : St) (l : List EntD) : okAll st (l.map ent) := fun c hc => by obtain ⟨n, _, rfl⟩ := List.mem_map.1 hc; rfl
theorem okAll_states (st : St) (l : List (List EntD)) : okAll st (l.map ents) := fun c hc => by obtain ⟨n, _, rfl⟩ := List.mem_map.1 hc; rfl
theorem ents_len (l : List EntD) : (l.map ent).length = l.length := by simp
theorem states_len (l : List (List EntD)) : (l.map ents).length = l.length := by simp
theorem enc_len (x : EntD) : (enc x).length = 3 := rfl
theorem enc_take (x : EntD) : (enc x).take 3 = enc x := rfl
theorem enc_ok (st : St) (x : EntD) : (enc x).all (okCell st) = true := rfl
theorem enc_0 (x : EntD) : ((enc x).drop 0).take 1 = [I x.kind] := rfl
theorem enc_0' (x : EntD) : (enc x).take 1 = [I x.kind] := rfl
theorem enc_1 (x : EntD) : ((enc x).drop 1).take 1 = [S x.key] := rfl
theorem enc_2 (x : EntD) : ((enc x).drop 2).take 1 = [I x.id] := rfl
attribute [go_sem] okAll_ents okAll_states enc ent ents states
theorem pureR_ents (l : List EntD) : PureR (ents l) := pure_ents l

/-- Does one entry precede another? -/
def prec (a b : EntD) : Bool := decide (a.kind < b.kind) || (decide (a.kind = b.kind) && Op.bytesLess a.key b.key)

theorem u8_lt (p q : UInt8) : p < q ↔ p.toNat < q.toNat := UInt8.lt_iff_toNat_lt
theorem u8_eq (p q : UInt8) : p = q ↔ p.toNat = q.toNat := UInt8.toNat_inj.symm
theorem bl_cons (x y : UInt8) (a b : Bytes) : Op.bytesLess (x :: a) (y :: b) = true ↔ x.toNat < y.toNat ∨ (x.toNat = y.toNat ∧ Op.bytesLess a b = true) := by
  simp [Op.bytesLess, u8_lt, u8_eq]
theorem bl_irrefl : ∀ a : Bytes, Op.bytesLess a a = false
  | [] => rfl
  | x :: a => by
    have := bl_irrefl a
    simp [Op.bytesLess, this]
theorem bl_total : ∀ a b : Bytes, Op.bytesLess a b = false → Op.bytesLess b a = false → a = b
  | [], [], _, _ => rfl
  | [], y :: b, h, _ => by simp [Op.bytesLess] at h
  | x :: a, [], _, h => by simp [Op.bytesLess] at h
  | x :: a, y :: b, h, k => by
    have h1 := mt (bl_cons x y a b).2 (by simp [h])
    have k1 := mt (bl_cons y x b a).2 (by simp [k])
    have e : x.toNat = y.toNat := by omega
    have ha : Op.bytesLess a b = false := by
      cases hh : Op.bytesLess a b with
      | false => rfl
      | true => exact (h1 (.inr ⟨e, hh⟩)).elim
    have hb : Op.bytesLess b a = false := by
      cases hh : Op.bytesLess b a with
      | false => rfl
      | true => exact (k1 (.inr ⟨e.symm, hh⟩)).elim
    rw [bl_total a b ha hb, UInt8.toNat_inj.1 e]
theorem bl_trans : ∀ a b c : Bytes, Op.bytesLess a b = true → Op.bytesLess b c = true → Op.bytesLess a c = true
  | _, [], c, h, _ => by simp [Op.bytesLess] at h
  | _, y :: b, [], _, k => by simp [Op.bytesLess] at k
  | [], y :: b, z :: c, _, _ => by simp [Op.bytesLess]
  | x :: a, y :: b, z :: c, h, k => by
    rw [bl_cons] at h k ⊢
    rcases h with h | ⟨h, h'⟩
    · rcases k with k | ⟨k, k'⟩
      · exact .inl (by omega)
      · exact .inl (by omega)
    · rcases k with k | ⟨k, k'⟩
      · exact .inl (by omega)
      · exact .inr ⟨by omega, bl_trans a b c h' k'⟩
theorem prec_irrefl (a : EntD) : prec a a = false := by simp [prec, bl_irrefl]
theorem prec_total (a b : EntD) (h : prec a b = false) (k : prec b a = false) : a.kind = b.kind ∧ a.key = b.key := by
  simp only [prec, Bool.or_eq_false_iff, decide_eq_false_iff_not, Bool.and_eq_false_imp, decide_eq_true_eq] at h k
  have e : a.kind = b.kind := by omega
  exact ⟨e, bl_total _ _ (h.2 e) (k.2 e.symm)⟩
theorem prec_trans (a b c : EntD) (h : prec a b = true) (k : prec b c = true) : prec a c = true := by
  simp only [prec, Bool.or_eq_true, decide_eq_true_eq, Bool.and_eq_true] at h k ⊢
  rcases h with h | ⟨h, h'⟩
  · rcases k with k | ⟨k, k'⟩
    · exact .inl (by omega)
    · exact .inl (by omega)
  · rcases k with k | ⟨k, k'⟩
    · exact .inl (by omega)
    · exact .inr ⟨by omega, bl_trans _ _ _ h' k'⟩
end Go.Abs
