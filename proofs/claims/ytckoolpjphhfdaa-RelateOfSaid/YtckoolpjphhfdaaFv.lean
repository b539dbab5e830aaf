/- The proof layer: a scope that no goto leaves. No condition. -/
import Derived.Test.YtckoolpjphhfdaaTb
namespace Go.Abs
open Go Go.RowKit
section
variable {P : Program} {b : Frame} {a : Act} {k : List Item} {cs : List Frame} {w : World}
theorem stepR_scope {c : Code} : step P (lone (b.atR a (.code (.scope c) :: k)) cs w) = .next (lone (b.atR a (.code c :: .inScope c :: k)) cs w) :=
  step_lone_go (by simp [stepG, stepG.exec, Frame.atR])
theorem stepR_inScope {c : Code} : step P (lone (b.atR a (.inScope c :: k)) cs w) = .next (lone (b.atR a k) cs w) :=
  step_lone_go (by simp [stepG, stepG.exec, Frame.atR])
end
def noGotoE (Q : Exit → Act → World → Prop) : Exit → Act → World → Prop
  | .goto _, _, _ => False
  | e, a, w => Q e a w
theorem wpIn_scope {F : Fence} {n : Nat} {P : Program} {Q : Exit → Act → World → Prop} {a : Act} {w : World} {c : Code} (h : c.wpIn F n P (noGotoE Q) a w) : (Code.scope c).wpIn F n P Q a w := by
  intro b k cs hro hb hr
  have h0 : (lone (b.atR a (.code (.scope c) :: k)) cs w).fenced P F := fenced_calm hb hr rfl
  obtain ⟨e, a₁, w₁, hq, harr⟩ := h b (.inScope c :: k) cs hro hb hr
  cases e with
  | normal => exact ⟨.normal, a₁, w₁, hq, .head h0 stepR_scope (StepsIn.trans harr (.one (fenced_calm hb hr rfl) stepR_inScope))⟩
  | exit id =>
    have hx : exitTo id (.inScope c :: k) = exitTo id k := by simp [exitTo]
    exact ⟨.exit id, a₁, w₁, hq, fun k' hk => .head h0 stepR_scope (harr.1 k' (by rw [hx]; exact hk)),
      fun hr' hk => let ⟨k₁, h1, h2⟩ := harr.2 hr' (by rw [hx]; exact hk); ⟨k₁, h1, .head h0 stepR_scope h2⟩⟩
  | goto l => exact hq.elim
  | ret => exact ⟨_, a₁, w₁, hq, .of_steps (.one h0 stepR_scope) harr⟩
  | panic ch => exact ⟨_, a₁, w₁, hq, .of_steps (.one h0 stepR_scope) harr⟩
  | outgrown => exact ⟨_, a₁, w₁, hq, .of_steps (.one h0 stepR_scope) harr⟩
def noGotoA (Q : Exit → St → Prop) : Exit → St → Prop
  | .goto _, _ => False
  | e, s => Q e s
section
variable {G : Ctx} {Q : Exit → St → Prop} {st : St} {own : List Nat}
theorem AWp.scope {c : Code} (h : AWp G c (noGotoA Q) st) : AWp G (.scope c) Q st := fun E a hr =>
  wpIn_scope (wpIn_mono (h E a hr) fun e a' w' ⟨st', E', h1, h2, h3⟩ => by
    cases e with
    | goto l => exact h3.elim
    | _ => exact ⟨st', E', h1, h2, h3⟩)
theorem AWp.scope_vc (own : List Nat) {c : Code} (h : vcCode G own c (noGotoA Q) st) : AWp G (.scope c) Q st := .scope (.of_vc own h)
@[congr] theorem noGotoA_congr {e : Exit} {st st' : St} (h : st = st') : noGotoA Q e st = noGotoA Q e st' := by rw [h]
theorem w_scope (c : Code) : vcCode G own (.scope c) Q st = AWp G (.scope c) Q st := nrfl _
theorem w_ng_normal : noGotoA Q .normal st = Q .normal st := nrfl _
theorem w_ng_ret : noGotoA Q .ret st = Q .ret st := nrfl _
theorem w_ng_exit (id : Nat) : noGotoA Q (.exit id) st = Q (.exit id) st := nrfl _
end
attribute [go_sem] w_scope w_ng_normal w_ng_ret w_ng_exit
end Go.Abs
