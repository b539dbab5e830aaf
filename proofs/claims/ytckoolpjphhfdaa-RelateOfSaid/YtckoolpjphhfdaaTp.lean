/- How the form's reading of arguments opens: numbers, texts, lists of them. No condition. -/
import Derived.Test.YtckoolpjphhfdaaTt
import Derived.Test.YtckoolpjphhfdaaTb
import Derived.Test.YtckoolpjphhfdaaFl
namespace Go.Proofs.Ytckoolpjphhfdaa
open Go Go.Abs
theorem opI : Opens Try.prog 3 (fun n => [I n]) (fun n => IntKind.i64.min ≤ n ∧ n ≤ IntKind.i64.max) := opens_int (by kernel_rfl)
theorem opB : Opens Try.prog 4 (fun n => [B n]) (fun _ => True) := opens_bool (by kernel_rfl)
theorem opS : Opens Try.prog 9 (fun n => [S n]) (fun n => n.length ≤ maxLen) := opens_string (by kernel_rfl)
theorem opInts : Opens Try.prog 23 (fun l => [ints l]) (fun l => ∀ n ∈ l, IntKind.i64.min ≤ n ∧ n ≤ IntKind.i64.max) := opens_slice (by kernel_rfl) (by kernel_rfl) (by decide) opI I (fun _ => rfl)
end Go.Proofs.Ytckoolpjphhfdaa
