/- Contracts of chapter 10: order of entries, find, Get, and the reference's. No condition. -/
import Derived.Test.YtmkchaiijfhnfaaTs
import Derived.Test.YtmkchaiijfhnfaaU2
namespace Go.Proofs.Ytmkchaiijfhnfaa
open Go Go.Abs
set_option linter.unusedSimpArgs false

theorem pureR_tup2 {a b : AV} (h : Pure a) (k : Pure b) (ha : PureR1 a) (hb : PureR1 b) : PureR (.tup [a, b]) := by
  intro r hr
  simp only [List.mem_cons, List.not_mem_nil, or_false] at hr
  rcases hr with rfl | rfl
  · exact ha
  · exact hb
theorem pureR_IB (n : Int) (b : Bool) : PureR (.tup [I n, B b]) := pureR_tup2 (pure_I _) (pure_B _) (pure_I _) (pure_B _)



def isSt (k : Int) : Bool := decide (1 ≤ k) && decide (k ≤ 10)


theorem pure_box (x : EntD) : Pure (.eptr (enc x) 0) := pure_eptr (pure_enc x)


/-- The place of an entry, and whether it is there. -/
def fidx (s : List EntD) (x : EntD) : Nat := (s.takeWhile fun e => prec e x).length
def fok (s : List EntD) (x : EntD) : Bool := (s[fidx s x]?).elim false fun e => !prec x e
theorem takeWhile_len {α : Type} (p : α → Bool) : ∀ (l : List α) (k : Nat), k ≤ l.length → (∀ (j : Nat) x, j < k → l[j]? = some x → p x = true) → (∀ x, l[k]? = some x → p x = false) → (l.takeWhile p).length = k
  | [], k, hk, _, _ => by simp at hk; simp [hk]
  | x :: l, 0, _, _, h2 => by simp [List.takeWhile_cons, h2 x rfl]
  | x :: l, k + 1, hk, h1, h2 => by
    have hx := h1 0 x (by omega) rfl
    simp only [List.takeWhile_cons, hx, if_true, List.length_cons]
    rw [takeWhile_len p l k (by simpa using hk) (fun j y hj hy => h1 (j + 1) y (by omega) (by simpa using hy)) (fun y hy => h2 y (by simpa using hy))]
theorem fidx_le (s : List EntD) (x : EntD) : fidx s x ≤ s.length := by
  unfold fidx
  have h := congrArg List.length (List.takeWhile_append_dropWhile (p := fun e : EntD => prec e x) (l := s))
  simp only [List.length_append] at h
  omega
theorem fok_lt {s : List EntD} {x : EntD} (h : fok s x = true) : fidx s x < s.length := by
  unfold fok at h
  cases he : s[fidx s x]? with
  | none => rw [he] at h; cases h
  | some e => exact (List.getElem?_eq_some_iff.1 he).1
def fnAV (f : FuncId) (x : EntD) : AV := .fn (.func f) [] [.eptr (enc x) 0]
theorem pure_fnAV (f : FuncId) (x : EntD) : Pure (fnAV f x) := pure_fn (fun c h => by cases h) fun c h => by simp only [List.mem_singleton] at h; subst h; exact pure_box x
attribute [go_sem] fnAV


def getOf (s : List EntD) (k : Int) (key : Bytes) : Option Int := if fok s ⟨k, key, 0⟩ = true then (s[fidx s ⟨k, key, 0⟩]?).map (·.id) else none
def optAV (o : Option Int) : AV := .tup [I (o.getD 0), B o.isSome]
theorem pureR_opt (o : Option Int) : PureR (optAV o) := pureR_IB _ _
attribute [go_sem] optAV

def isKey (k : Int) (key : Bytes) (e : EntD) : Bool := e.kind == k && e.key == key
theorem isKey_iff {k : Int} {key : Bytes} {e : EntD} : isKey k key e = true ↔ e.kind = k ∧ e.key = key := by simp [isKey]
def rgetOf (s : List EntD) (k : Int) (key : Bytes) : Option Int := (s.find? (isKey k key)).map (·.id)

end Go.Proofs.Ytmkchaiijfhnfaa
