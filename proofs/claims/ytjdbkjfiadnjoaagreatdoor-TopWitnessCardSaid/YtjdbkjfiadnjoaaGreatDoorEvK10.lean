/- Some kinds of TopWitness, run by the kernel. -/
import Derived.Test.YtjdbkjfiadnjoaaGreatDoorEvE
namespace Go.Ev
set_option maxRecDepth 10000000
theorem run10 : runKinds [(7, 2, 4), (5, 3, 5), (7, 4, 5)] 400 = true := by kernel_rfl
theorem seen10 : Seen [(7, 2, 4), (5, 3, 5), (7, 4, 5)] 400 := seen_of run10 (by decide)
end Go.Ev
