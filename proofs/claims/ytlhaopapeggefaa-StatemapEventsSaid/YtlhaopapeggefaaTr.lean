/- How the form's reading of states opens. No condition. -/
import Derived.Test.YtlhaopapeggefaaTp
import Derived.Test.YtlhaopapeggefaaTs
namespace Go.Proofs.Ytlhaopapeggefaa
open Go Go.Abs
theorem opKind : Opens Try.prog 28 (fun n => [I n]) (fun _ => True) := (opens_int (by kernel_rfl)).map id (fun _ _ => rfl) (fun _ _ => trivial)
theorem opEnt : Opens Try.prog 30 enc (fun _ => True) := by
  have h := opens_struct Try.underlying30 (by kernel_rfl) (opensFs_cons rfl (by kernel_rfl) (by intros; rfl) opKind (opensFs_cons rfl (by kernel_rfl) (by intros; rfl) opS (opensFs_cons rfl (by kernel_rfl) (by intros; rfl) opI opensFs_nil)))
  exact h.map (fun x => ⟨x.1, x.2.1, x.2.2.1⟩) (fun _ _ => rfl) (fun _ _ => trivial)
theorem opEnts : Opens Try.prog 23 (fun l => [ents l]) (fun _ => True) := (opens_slice (by kernel_rfl) (by kernel_rfl) (by decide) opEnt ent (fun _ => rfl)).map id (fun _ _ => rfl) (fun _ _ => trivial)
theorem opStates : Opens Try.prog 39 (fun l => [states l]) (fun _ => True) := (opens_slice (by kernel_rfl) (by kernel_rfl) (by decide) opEnts ents (fun _ => rfl)).map id (fun _ _ => rfl) (fun _ _ => trivial)
end Go.Proofs.Ytlhaopapeggefaa
