/- How the form's reading of states opens. No condition. -/
import Derived.Test.YtebggldlhohkpaaTp
import Derived.Test.YtebggldlhohkpaaTs
namespace Go.Proofs.Ytebggldlhohkpaa
open Go Go.Abs
theorem opKind : Opens Try.prog 22 (fun n => [I n]) (fun _ => True) := (opens_int (by kernel_rfl)).map id (fun _ _ => rfl) (fun _ _ => trivial)
theorem opEnt : Opens Try.prog 56 enc (fun _ => True) := by
  have h := opens_struct Try.underlying56 (by kernel_rfl) (opensFs_cons rfl (by kernel_rfl) (by intros; rfl) opKind (opensFs_cons rfl (by kernel_rfl) (by intros; rfl) opS (opensFs_cons rfl (by kernel_rfl) (by intros; rfl) opI opensFs_nil)))
  exact h.map (fun x => ⟨x.1, x.2.1, x.2.2.1⟩) (fun _ _ => rfl) (fun _ _ => trivial)
theorem opEnts : Opens Try.prog 40 (fun l => [ents l]) (fun _ => True) := (opens_slice (by kernel_rfl) (by kernel_rfl) (by decide) opEnt ent (fun _ => rfl)).map id (fun _ _ => rfl) (fun _ _ => trivial)
end Go.Proofs.Ytebggldlhohkpaa
