/- The proved evaluator: part Kw (Kw). -/
import Derived.Test.YtjdbkjfiadnjoaaGreatDoorEvT
set_option linter.unusedVariables false
set_option linter.unusedSimpArgs false
section
open Go Go.Ev
set_option maxRecDepth 10000000
theorem works_true : runF Go.Proofs.Tryz.prog exts glk drT 400 9 [] (fun v _ => isTrue v) = true := by kernel_rfl
end
