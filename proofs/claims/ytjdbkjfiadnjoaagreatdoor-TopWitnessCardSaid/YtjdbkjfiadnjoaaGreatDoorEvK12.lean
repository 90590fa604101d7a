/- Some kinds of TopWitness, run by the kernel. -/
import Derived.Test.YtjdbkjfiadnjoaaGreatDoorEvE
namespace Go.Ev
set_option maxRecDepth 10000000
theorem run12 : runKinds [(6, 1, 3), (5, 2, 4), (7, 3, 4), (1, 3, 5)] 400 = true := by kernel_rfl
theorem seen12 : Seen [(6, 1, 3), (5, 2, 4), (7, 3, 4), (1, 3, 5)] 400 := seen_of run12 (by decide)
end Go.Ev
