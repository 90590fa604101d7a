/- The proved evaluator: part Kn (Kn). -/
import Derived.Test.YtjdbkjfiadnjoaaGreatDoorEvT
import Derived.Test.YtjdbkjfiadnjoaaGreatDoorEvD
set_option linter.unusedVariables false
set_option linter.unusedSimpArgs false
section
open Go Go.Ev
set_option maxRecDepth 10000000
theorem names_ok : (Go.Proofs.Tryz.prog.funcs.toList.all fun fn => !(fn.name == "runtime.NumGoroutine")) = true := by kernel_rfl
theorem mixed_ok : Go.Proofs.Tryz.prog.follows .mixedOrders = true := by kernel_rfl
end
