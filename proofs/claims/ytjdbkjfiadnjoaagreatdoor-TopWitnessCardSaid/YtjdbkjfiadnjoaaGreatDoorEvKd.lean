/- The proved evaluator: part Kd (Kd). -/
import Derived.Test.YtjdbkjfiadnjoaaGreatDoorEvT
import Derived.Test.YtjdbkjfiadnjoaaGreatDoorEvD
set_option linter.unusedVariables false
set_option linter.unusedSimpArgs false
section
open Go Go.Ev
set_option maxRecDepth 10000000
theorem draws_true : withCtx Go.Proofs.Tryz.prog exts glk drT (drawsAll Go.Proofs.Tryz.prog) = true := by kernel_rfl
end
