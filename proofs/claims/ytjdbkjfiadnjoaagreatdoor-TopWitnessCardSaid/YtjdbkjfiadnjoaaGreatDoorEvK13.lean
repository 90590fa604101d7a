/- Some kinds of TopWitness, run by the kernel. -/
import Derived.Test.YtjdbkjfiadnjoaaGreatDoorEvE
namespace Go.Ev
set_option maxRecDepth 10000000
theorem run13 : runKinds [(5, 1, 3), (1, 1, 5), (2, 2, 5), (3, 3, 5), (5, 1, 1)] 400 = true := by kernel_rfl
theorem seen13 : Seen [(5, 1, 3), (1, 1, 5), (2, 2, 5), (3, 3, 5), (5, 1, 1)] 400 := seen_of run13 (by decide)
end Go.Ev
