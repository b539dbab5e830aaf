/- The proof layer, part 10: the walk of whole code, up to the next call or loop. No condition. -/
import Derived.Test.YtckoolpjphhfdaaFi
namespace Go.Abs
open Go Go.RowKit

def vcCode (G : Ctx) (own : List Nat) : Code → (Exit → St → Prop) → St → Prop
  | .skip, Q, st => Q .normal st
  | .label _, Q, st => Q .normal st
  | .ret, Q, st => Q .ret st
  | .exit id, Q, st => Q (.exit id) st
  | .region id ops draw, Q, st => match draw with
    | false => vcOps G own ops (Q .normal) ops.toList st
    | true => AWp G (.region id ops true) Q st
  | .seq a b, Q, st => vcCode G own a (thenA (vcCode G own b Q) Q) st
  | .cond c a b, Q, st => onBool (st.ev c) fun t => if t = true then vcCode G own a Q st else vcCode G own b Q st
  | .block id c, Q, st => vcCode G own c (inBlockA id Q) st
  | .loop c, Q, st => AWp G (.loop c) Q st
  | .rangeFunc f ps x c, Q, st => AWp G (.rangeFunc f ps x c) Q st
  | .scope c, Q, st => AWp G (.scope c) Q st
  | .goto l, Q, st => AWp G (.goto l) Q st
  | .refuse _, _, _ => False

theorem AWp.of_vc {G : Ctx} (own : List Nat) : ∀ {c : Code} {Q : Exit → St → Prop} {st : St}, vcCode G own c Q st → AWp G c Q st
  | .skip, _, _, h => .skip h
  | .label _, _, _, h => .label h
  | .ret, _, _, h => .ret h
  | .exit _, _, _, h => .exit h
  | .region _ _ false, _, _, h => .region own h
  | .region _ _ true, _, _, h => h
  | .seq a b, Q, st, h => by
      have h' : vcCode G own a (thenA (vcCode G own b Q) Q) st := h
      refine .seq (AWp.mono (AWp.of_vc own h') fun e s hq => ?_)
      cases e with
      | normal => exact AWp.of_vc own (c := b) (Q := Q) hq
      | _ => exact hq
  | .cond _ _ _, _, _, h => by
      obtain ⟨t, h1, h2⟩ := h
      refine .cond h1 ?_
      split
      · rename_i ht; rw [if_pos ht] at h2; exact AWp.of_vc own h2
      · rename_i ht; rw [if_neg ht] at h2; exact AWp.of_vc own h2
  | .block _ _, _, _, h => .block (AWp.of_vc own h)
  | .loop _, _, _, h => h
  | .rangeFunc _ _ _ _, _, _, h => h
  | .scope _, _, _, h => h
  | .goto _, _, _, h => h
  | .refuse _, _, _, h => h.elim

theorem AWp.loop_vc {G : Ctx} (own : List Nat) {c : Code} {Q : Exit → St → Prop} {st : St} (I : Nat → St → Prop) (n₀ : Nat) (h₀ : I n₀ st)
    (round : ∀ n s, I n s → vcCode G own c (thenA (fun s' => ∃ n', n' < n ∧ I n' s') Q) s) : AWp G (.loop c) Q st :=
  AWp.loop I n₀ h₀ fun n s h => AWp.of_vc own (round n s h)

/- The walk's simp looks into the state alone. -/
@[congr] theorem AWp_congr {G : Ctx} {c : Code} {Q : Exit → St → Prop} {st st' : St} (h : st = st') : AWp G c Q st = AWp G c Q st' := by rw [h]
@[congr] theorem vcCode_congr {G : Ctx} {own : List Nat} {c : Code} {Q : Exit → St → Prop} {st st' : St} (h : st = st') : vcCode G own c Q st = vcCode G own c Q st' := by rw [h]
@[congr] theorem vcOps_congr {G : Ctx} {own : List Nat} {ops : Array Oper} {Q : St → Prop} {l : List Oper} {st st' : St} (h : st = st') : vcOps G own ops Q l st = vcOps G own ops Q l st' := by rw [h]
@[congr] theorem vcOp_congr {G : Ctx} {own : List Nat} {K : St → Prop} {o : Oper} {st st' : St} (h : st = st') : vcOp G own K o st = vcOp G own K o st' := by rw [h]
@[congr] theorem CallSem_congr {G : Ctx} {g : FuncId} {args args' : List AV} {dst : Option Tmp} {K : St → Prop} {st st' : St} (ha : args = args') (h : st = st') : CallSem G g args dst K st = CallSem G g args' dst K st' := by rw [h, ha]

@[congr] theorem thenA_congr {K : St → Prop} {Q : Exit → St → Prop} {e : Exit} {st st' : St} (h : st = st') : thenA K Q e st = thenA K Q e st' := by rw [h]
@[congr] theorem inBlockA_congr {id : Nat} {Q : Exit → St → Prop} {e : Exit} {st st' : St} (h : st = st') : inBlockA id Q e st = inBlockA id Q e st' := by rw [h]
end Go.Abs
