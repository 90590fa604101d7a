/-
  Closed facts on handle's parts.
-/
import Derived.Test.YtbgohgligponiaaProg
import Derived.WalkKit
import Derived.Outline
import Derived.Below
import Derived.Lib.Hide
import Derived.BigQuiet
import Derived.Deep.QuietTactic
import Derived.Handy
namespace Go.Proofs.Ytbgohgligponiaa
open Go.RowKit

abbrev partsV : Value := .agg #[.int .i64 60, .int .i64 1, .int .i64 3, .int .i64 40, .int .i64 0, .int .i64 1048575, .int .i64 20, .int .i64 0, .int .i64 1048575, .int .i64 0, .int .i64 0, .int .i64 1048575]
theorem parts0 (w : World) : (Instr.index 62 partsV (.int .i64 0)).run Try.prog w = .ok (.agg #[.int .i64 60, .int .i64 1, .int .i64 3]) w := by kernel_rfl
theorem parts1 (w : World) : (Instr.index 62 partsV (.int .i64 1)).run Try.prog w = .ok (.agg #[.int .i64 40, .int .i64 0, .int .i64 1048575]) w := by kernel_rfl
theorem parts2 (w : World) : (Instr.index 62 partsV (.int .i64 2)).run Try.prog w = .ok (.agg #[.int .i64 20, .int .i64 0, .int .i64 1048575]) w := by kernel_rfl
theorem parts3 (w : World) : (Instr.index 62 partsV (.int .i64 3)).run Try.prog w = .ok (.agg #[.int .i64 0, .int .i64 0, .int .i64 1048575]) w := by kernel_rfl

end Go.Proofs.Ytbgohgligponiaa
