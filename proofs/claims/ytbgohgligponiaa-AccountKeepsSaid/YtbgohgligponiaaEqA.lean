/-
  '==' of accounts.
-/
import Derived.Test.YtbgohgligponiaaProg
import Derived.WalkKit
import Derived.Laws.StructEq
namespace Go.Proofs.Ytbgohgligponiaa
open Go.RowKit

theorem eql_acct (a0 a1 a2 b0 b1 b2 : Int) (w : World) :
    (Op.equalIn 10000 35 (.agg #[.int .i64 a0, .int .i64 a1, .int .i64 a2]) (.agg #[.int .i64 b0, .int .i64 b1, .int .i64 b2])).run Try.prog w =
      .ok (a0 == b0 && (a1 == b1 && a2 == b2)) w := by
  have u3 := Try.underlying3
  have a3' := Try.isAgg3
  have z3 := Try.sizeOf3
  have hS : Try.prog.underlying 35 = some (.struct (Try.prog.fieldsOf 35)) := by kernel_rfl
  have hp : Try.prog.stoodInHeld 35 = false := by kernel_rfl
  rw [show (10000 : Nat) = 9999 + 1 from rfl, run_equalIn_agg w 9999 35 _ _ hS hp]
  simp only [Program.fieldsOf, Try.underlying35]
  go_simp
  by_cases h0 : a0 = b0 <;> by_cases h1 : a1 = b1 <;> by_cases h2 : a2 = b2 <;> simp [h0, h1, h2]
theorem eql_acct_same (a0 a1 a2 : Int) (w : World) :
    (Op.equalIn 10000 35 (.agg #[.int .i64 a0, .int .i64 a1, .int .i64 a2]) (.agg #[.int .i64 a0, .int .i64 a1, .int .i64 a2])).run Try.prog w = .ok true w := by rw [eql_acct]; simp
end Go.Proofs.Ytbgohgligponiaa
