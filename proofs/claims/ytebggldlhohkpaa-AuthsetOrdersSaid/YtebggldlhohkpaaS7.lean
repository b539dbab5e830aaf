/- Contracts of chapter 10: both Split. No condition. -/
import Derived.Test.YtebggldlhohkpaaS6
import Derived.Test.YtebggldlhohkpaaP1
namespace Go.Proofs.Ytebggldlhohkpaa
open Go Go.Abs
set_option linter.unusedSimpArgs false
def idsS (a : EntD → Bool) (s : List EntD) : List Int := (s.filter fun e => !a e).map (·.id)
def idsO (a : EntD → Bool) (l : List (List EntD)) (k : Nat) : List Int := (l.take k).flatMap (idsS a)
def sameO (a : EntD → Bool) (l : List (List EntD)) (k : Nat) : List EntD := if k = 0 then [] else (l.getD 0 []).filter a
theorem idsO_succ (a : EntD → Bool) {l : List (List EntD)} {k : Nat} (h : k < l.length) : idsO a l (k + 1) = idsO a l k ++ idsS a l[k] := by
  unfold idsO
  rw [List.take_succ_eq_append_getElem h, List.flatMap_append]
  simp
theorem idsS_succ (a : EntD → Bool) {s : List EntD} {q : Nat} (h : q < s.length) : idsS a (s.take (q + 1)) = if a s[q] = true then idsS a (s.take q) else idsS a (s.take q) ++ [s[q].id] := by
  unfold idsS
  rw [filter_take _ _ _ h]
  cases ha : a s[q] <;> simp
def splitAV (a : EntD → Bool) (l : List (List EntD)) : AV := .tup [ents (sameO a l l.length), ints (sortedL (idsO a l l.length))]
theorem pureR_split (a : EntD → Bool) (l : List (List EntD)) : PureR (splitAV a l) := pureR_tup2 (pure_ents _) (pure_ints _) (pure_ents _) (pure_ints _)
theorem idsS_len (a : EntD → Bool) (s : List EntD) : (idsS a s).length ≤ s.length := by
  unfold idsS; rw [List.length_map]; exact List.length_filter_le _ _
end Go.Proofs.Ytebggldlhohkpaa
