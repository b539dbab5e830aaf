/- Contracts of chapter 10: both Of, both Events. No condition. -/
import Derived.Test.YtebggldlhohkpaaS7
import Derived.Test.YtebggldlhohkpaaE1
namespace Go.Proofs.Ytebggldlhohkpaa
open Go Go.Abs
set_option linter.unusedSimpArgs false
def ofStep (s : List EntD) (e : Evt) : List EntD := if isSt e.kind = true then setOf s e.kind e.key e.id else s
def ofOf (l : List Evt) : List EntD := l.foldl ofStep []
theorem setOf_len (s : List EntD) (k : Int) (key : Bytes) (id : Int) : (setOf s k key id).length ≤ s.length + 1 := by
  unfold setOf
  have := fidx_le s ⟨k, key, 0⟩
  rw [List.length_append, List.length_cons, List.length_drop, List.length_take]
  split <;> omega
theorem ofStep_len (l : List Evt) : ∀ s : List EntD, (l.foldl ofStep s).length ≤ s.length + l.length := by
  induction l with
  | nil => intro s; simp
  | cons e l ih =>
    intro s
    have h1 := ih (ofStep s e)
    have h2 : (ofStep s e).length ≤ s.length + 1 := by
      unfold ofStep; split
      · exact setOf_len _ _ _ _
      · omega
    simp only [List.foldl_cons, List.length_cons]; omega
theorem ofOf_len (l : List Evt) (k : Nat) : (ofOf (l.take k)).length ≤ k := by
  have := ofStep_len (l.take k) []
  simp only [List.length_nil, List.length_take] at this
  unfold ofOf; omega
theorem ofOf_succ {l : List Evt} {k : Nat} (h : k < l.length) : ofOf (l.take (k + 1)) = ofStep (ofOf (l.take k)) l[k] := by
  unfold ofOf
  rw [List.take_succ_eq_append_getElem h, List.foldl_append]; rfl
def eventsOf (l : List Evt) (s : List EntD) : List Evt := s.filterMap fun e => getE l e.id
theorem eventsOf_succ (l : List Evt) {s : List EntD} {k : Nat} (h : k < s.length) : eventsOf l (s.take (k + 1)) = eventsOf l (s.take k) ++ (getE l s[k].id).toList := by
  unfold eventsOf
  rw [List.take_succ_eq_append_getElem h, List.filterMap_append]
  cases hg : getE l s[k].id <;> simp [hg]
theorem eventsOf_len (l : List Evt) (s : List EntD) (k : Nat) : (eventsOf l (s.take k)).length ≤ k := by
  have := List.length_filterMap_le (fun e : EntD => getE l e.id) (s.take k)
  simp only [List.length_take] at this
  unfold eventsOf; omega
theorem pureR_evs (l : List Evt) : PureR (evs l) := pure_evs l
end Go.Proofs.Ytebggldlhohkpaa
