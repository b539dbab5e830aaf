/- How the form's reading of the arguments of chapter 46 opens. No condition. -/
import Derived.Test.YtgpjdkbepgomhaaTp
import Derived.Test.YtgpjdkbepgomhaaTc
namespace Go.Proofs.Ytgpjdkbepgomhaa
open Go Go.Abs
theorem opStrs : Opens Try.prog 26 (fun l => [strs l]) (fun _ => True) := (opens_slice (by kernel_rfl) (by kernel_rfl) (by decide) opS S (fun _ => rfl)).map id (fun _ _ => rfl) (fun _ _ => trivial)
theorem opT : Opens Try.prog 31 (fun n => [I n]) (fun _ => True) := (opens_int (by kernel_rfl)).map id (fun _ _ => rfl) (fun _ _ => trivial)
theorem opTs : Opens Try.prog 34 (fun l => [ints l]) (fun _ => True) := (opens_slice (by kernel_rfl) (by kernel_rfl) (by decide) opT I (fun _ => rfl)).map id (fun _ _ => rfl) (fun _ _ => trivial)
theorem opDev : Opens Try.prog 43 dvc (fun _ => True) := by
  have h := opens_struct Try.underlying43 (by kernel_rfl) (opensFs_cons rfl (by kernel_rfl) (by intros; rfl) opS (opensFs_cons rfl (by kernel_rfl) (by intros; rfl) opI (opensFs_cons rfl (by kernel_rfl) (by intros; rfl) opB opensFs_nil)))
  exact h.map (fun x => ⟨x.1, x.2.1, x.2.2.1⟩) (fun _ _ => rfl) (fun _ _ => trivial)
theorem opDevs : Opens Try.prog 22 (fun l => [dvs l]) (fun _ => True) := (opens_slice (by kernel_rfl) (by kernel_rfl) (by decide) opDev dv (fun _ => rfl)).map id (fun _ _ => rfl) (fun _ _ => trivial)
theorem opKeys : Opens Try.prog 24 ksc (fun _ => True) := by
  have h := opens_struct Try.underlying24 (by kernel_rfl) (opensFs_cons rfl (by kernel_rfl) (by intros; rfl) opS (opensFs_cons rfl (by kernel_rfl) (by intros; rfl) opI (opensFs_cons rfl (by kernel_rfl) (by intros; rfl) opI (opensFs_cons rfl (by kernel_rfl) (by intros; rfl) opDevs opensFs_nil))))
  exact h.map (fun x => ⟨x.1, x.2.1, x.2.2.1, x.2.2.2.1⟩) (fun _ _ => rfl) (fun _ _ => trivial)
theorem opCase : Opens Try.prog 28 csc (fun _ => True) := by
  have h := opens_struct Try.underlying28 (by kernel_rfl) (opensFs_cons (s1 := 4) rfl (by kernel_rfl) (by intros; rfl) opKeys (opensFs_cons (s1 := 4) rfl (by kernel_rfl) (by intros; rfl) opKeys (opensFs_cons rfl (by kernel_rfl) (by intros; rfl) opS (opensFs_cons rfl (by kernel_rfl) (by intros; rfl) opInts (opensFs_cons rfl (by kernel_rfl) (by intros; rfl) opStrs (opensFs_cons rfl (by kernel_rfl) (by intros; rfl) opB opensFs_nil))))))
  exact h.map (fun x => ⟨x.1, x.2.1, x.2.2.1, x.2.2.2.1, x.2.2.2.2.1, x.2.2.2.2.2.1⟩) (fun _ _ => rfl) (fun _ _ => trivial)
end Go.Proofs.Ytgpjdkbepgomhaa
