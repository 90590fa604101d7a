/- Some kinds of TopWitness, run by the kernel. -/
import Derived.Test.YtjdbkjfiadnjoaaGreatDoorEvE
namespace Go.Ev
set_option maxRecDepth 10000000
theorem run17 : runKinds [(1, 2, 5), (2, 4, 5), (6, 2, 3), (5, 4, 4), (1, 4, 5), (3, 2, 3)] 400 = true := by kernel_rfl
theorem seen17 : Seen [(1, 2, 5), (2, 4, 5), (6, 2, 3), (5, 4, 4), (1, 4, 5), (3, 2, 3)] 400 := seen_of run17 (by decide)
end Go.Ev
