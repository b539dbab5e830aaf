/- Contracts of chapter 10: loops over a state's entries. No condition. -/
import Derived.Test.YtmkchaiijfhnfaaS1
namespace Go.Proofs.Ytmkchaiijfhnfaa
open Go Go.Abs
set_option linter.unusedSimpArgs false

/-- The same memory below 20000, but for one number. -/
def Agree (R : Nat) (s1 s2 : St) : Prop := ∀ id, id < 20000 → id ≠ R → s2.ver id = s1.ver id ∧ s2.h id = s1.h id
/-- What a round must come to. -/
def EachPost (R V : Nat) (r : Loop) (st : St) (Inv : St → Prop) (Q : Exit → St → Prop) : Exit → St → Prop
  | .normal, s => (s.ver R = V ∧ s.h R = recB r .busy none) ∧ Inv (st.mem s)
  | .ret, s => (s.ver R = V ∧ s.h R = recB r .busy none) ∧ Q .ret (st.mem (s.setH R .none))
  | .exit id, s => (s.ver R = V ∧ s.h R = recB r .busy none) ∧ Q (.exit id) (st.mem (s.setH R .none))
  | _, _ => False
theorem w_ep_normal (R V : Nat) (r : Loop) (st : St) (Inv : St → Prop) (Q : Exit → St → Prop) (s : St) : EachPost R V r st Inv Q .normal s = ((s.ver R = V ∧ s.h R = recB r .busy none) ∧ Inv (st.mem s)) := nrfl _
theorem w_ep_ret (R V : Nat) (r : Loop) (st : St) (Inv : St → Prop) (Q : Exit → St → Prop) (s : St) : EachPost R V r st Inv Q .ret s = ((s.ver R = V ∧ s.h R = recB r .busy none) ∧ Q .ret (st.mem (s.setH R .none))) := nrfl _
theorem w_ep_exit (R V : Nat) (r : Loop) (st : St) (Inv : St → Prop) (Q : Exit → St → Prop) (s : St) (id : Nat) : EachPost R V r st Inv Q (.exit id) s = ((s.ver R = V ∧ s.h R = recB r .busy none) ∧ Q (.exit id) (st.mem (s.setH R .none))) := nrfl _
attribute [go_sem ↓] w_ep_normal w_ep_ret w_ep_exit

theorem mem_set {R : Nat} (st si s : St) (b : Blk) (d d' : Nat) (x x' : AV) : st.mem ((((si.mem (s.setH R b)).put (some d) x).put (some d') x').setH R .none) = st.mem (s.setH R .none) := by
  simp only [St.mem, St.setH, St.put]
  congr 1
  funext j
  by_cases h : j = R <;> simp [upd, h]

end Go.Proofs.Ytmkchaiijfhnfaa
