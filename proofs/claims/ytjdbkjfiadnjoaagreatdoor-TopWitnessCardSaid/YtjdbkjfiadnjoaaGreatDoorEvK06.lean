/- Some kinds of TopWitness, run by the kernel. -/
import Derived.Test.YtjdbkjfiadnjoaaGreatDoorEvE
namespace Go.Ev
set_option maxRecDepth 10000000
theorem run06 : runKinds [(6, 1, 4), (5, 2, 5), (7, 1, 1)] 400 = true := by kernel_rfl
theorem seen06 : Seen [(6, 1, 4), (5, 2, 5), (7, 1, 1)] 400 := seen_of run06 (by decide)
end Go.Ev
