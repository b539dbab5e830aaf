/- How the form's reading of events opens. No condition. -/
import Derived.Test.YtckoolpjphhfdaaTp
namespace Go.Proofs.Ytckoolpjphhfdaa
open Go Go.Abs
theorem opStrsE : Opens Try.prog 24 (fun l => [strs l]) (fun _ => True) := (opens_slice (by kernel_rfl) (by kernel_rfl) (by decide) opS S (fun _ => rfl)).map id (fun _ _ => rfl) (fun _ _ => trivial)
theorem opIntsE : Opens Try.prog 23 (fun l => [ints l]) (fun _ => True) := opInts.map id (fun _ _ => rfl) (fun _ _ => trivial)
theorem opKindE : Opens Try.prog 22 (fun n => [I n]) (fun _ => True) := (opens_int (by kernel_rfl)).map id (fun _ _ => rfl) (fun _ _ => trivial)
theorem opLevel : Opens Try.prog 134 lvc (fun _ => True) := by
  have h := opens_struct Try.underlying134 (by kernel_rfl) (opensFs_cons rfl (by kernel_rfl) (by intros; rfl) opS (opensFs_cons rfl (by kernel_rfl) (by intros; rfl) opI opensFs_nil))
  exact h.map (fun x => ⟨x.1, x.2.1⟩) (fun _ _ => rfl) (fun _ _ => trivial)
theorem opKLevel : Opens Try.prog 136 klc (fun _ => True) := by
  have h := opens_struct Try.underlying136 (by kernel_rfl) (opensFs_cons rfl (by kernel_rfl) (by intros; rfl) opKindE (opensFs_cons rfl (by kernel_rfl) (by intros; rfl) opI opensFs_nil))
  exact h.map (fun x => ⟨x.1, x.2.1⟩) (fun _ _ => rfl) (fun _ _ => trivial)
theorem opUsers : Opens Try.prog 25 (fun l : List Level => [.lst 2 (l.map fun u => .agg (lvc u))]) (fun _ => True) := (opens_slice (by kernel_rfl) (by kernel_rfl) (by decide) opLevel (fun u : Level => .agg (lvc u)) (fun _ => rfl)).map id (fun _ _ => rfl) (fun _ _ => trivial)
theorem opKinds : Opens Try.prog 26 (fun l : List KindLevel => [.lst 2 (l.map fun u => .agg (klc u))]) (fun _ => True) := (opens_slice (by kernel_rfl) (by kernel_rfl) (by decide) opKLevel (fun u : KindLevel => .agg (klc u)) (fun _ => rfl)).map id (fun _ _ => rfl) (fun _ _ => trivial)
theorem opLevels : Opens Try.prog 28 lvsc (fun _ => True) := by
  have h := opens_struct Try.underlying28 (by kernel_rfl) (opensFs_cons rfl (by kernel_rfl) (by intros; rfl) opUsers (opensFs_cons rfl (by kernel_rfl) (by intros; rfl) opKinds (opensFs_cons rfl (by kernel_rfl) (by intros; rfl) opI (opensFs_cons rfl (by kernel_rfl) (by intros; rfl) opI (opensFs_cons rfl (by kernel_rfl) (by intros; rfl) opI (opensFs_cons rfl (by kernel_rfl) (by intros; rfl) opI (opensFs_cons rfl (by kernel_rfl) (by intros; rfl) opI (opensFs_cons rfl (by kernel_rfl) (by intros; rfl) opI (opensFs_cons rfl (by kernel_rfl) (by intros; rfl) opI opensFs_nil)))))))))
  exact h.map (fun x => ⟨x.1, x.2.1, x.2.2.1, x.2.2.2.1, x.2.2.2.2.1, x.2.2.2.2.2.1, x.2.2.2.2.2.2.1, x.2.2.2.2.2.2.2.1, x.2.2.2.2.2.2.2.2.1⟩) (fun _ _ => rfl) (fun _ _ => trivial)
theorem opContent : Opens Try.prog 30 ctc (fun _ => True) := by
  have h := opens_struct Try.underlying30 (by kernel_rfl) (opensFs_cons rfl (by kernel_rfl) (by intros; rfl) opS (opensFs_cons rfl (by kernel_rfl) (by intros; rfl) opI (opensFs_cons rfl (by kernel_rfl) (by intros; rfl) opI (opensFs_cons rfl (by kernel_rfl) (by intros; rfl) opB (opensFs_cons rfl (by kernel_rfl) (by intros; rfl) opS (opensFs_cons rfl (by kernel_rfl) (by intros; rfl) opStrsE (opensFs_cons rfl (by kernel_rfl) (by intros; rfl) opStrsE (opensFs_cons (s1 := 9) rfl (by kernel_rfl) (by intros; rfl) opLevels opensFs_nil))))))))
  exact h.map (fun x => ⟨x.1, x.2.1, x.2.2.1, x.2.2.2.1, x.2.2.2.2.1, x.2.2.2.2.2.1, x.2.2.2.2.2.2.1, x.2.2.2.2.2.2.2.1⟩) (fun _ _ => rfl) (fun _ _ => trivial)
theorem opSig : Opens Try.prog 32 (fun x : Sig => [S x.server, I x.sum]) (fun _ => True) := by
  have h := opens_struct Try.underlying32 (by kernel_rfl) (opensFs_cons rfl (by kernel_rfl) (by intros; rfl) opS (opensFs_cons rfl (by kernel_rfl) (by intros; rfl) opI opensFs_nil))
  exact h.map (fun x => ⟨x.1, x.2.1⟩) (fun _ _ => rfl) (fun _ _ => trivial)
theorem opEvt : Opens Try.prog 34 evc (fun _ => True) := by
  have h := opens_struct Try.underlying34 (by kernel_rfl) (opensFs_cons rfl (by kernel_rfl) (by intros; rfl) opI (opensFs_cons rfl (by kernel_rfl) (by intros; rfl) opS (opensFs_cons rfl (by kernel_rfl) (by intros; rfl) opS (opensFs_cons rfl (by kernel_rfl) (by intros; rfl) opKindE (opensFs_cons rfl (by kernel_rfl) (by intros; rfl) opB (opensFs_cons rfl (by kernel_rfl) (by intros; rfl) opS (opensFs_cons rfl (by kernel_rfl) (by intros; rfl) opI (opensFs_cons rfl (by kernel_rfl) (by intros; rfl) opI (opensFs_cons rfl (by kernel_rfl) (by intros; rfl) opIntsE (opensFs_cons rfl (by kernel_rfl) (by intros; rfl) opIntsE (opensFs_cons (s1 := 16) rfl (by kernel_rfl) (by intros; rfl) opContent (opensFs_cons rfl (by kernel_rfl) (by intros; rfl) opI (opensFs_cons (s1 := 2) rfl (by kernel_rfl) (by intros; rfl) opSig opensFs_nil)))))))))))))
  exact h.map (fun x => ⟨x.1, x.2.1, x.2.2.1, x.2.2.2.1, x.2.2.2.2.1, x.2.2.2.2.2.1, x.2.2.2.2.2.2.1, x.2.2.2.2.2.2.2.1, x.2.2.2.2.2.2.2.2.1, x.2.2.2.2.2.2.2.2.2.1, x.2.2.2.2.2.2.2.2.2.2.1, x.2.2.2.2.2.2.2.2.2.2.2.1, x.2.2.2.2.2.2.2.2.2.2.2.2.1⟩) (fun _ _ => rfl) (fun _ _ => trivial)
theorem opEvts : Opens Try.prog 40 (fun l => [evs l]) (fun _ => True) := (opens_slice (by kernel_rfl) (by kernel_rfl) (by decide) opEvt ev (fun _ => rfl)).map id (fun _ _ => rfl) (fun _ _ => trivial)
end Go.Proofs.Ytckoolpjphhfdaa
