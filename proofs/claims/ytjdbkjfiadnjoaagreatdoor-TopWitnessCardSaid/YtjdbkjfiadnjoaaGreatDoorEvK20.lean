/- Some kinds of TopWitness, run by the kernel. -/
import Derived.Test.YtjdbkjfiadnjoaaGreatDoorEvE
namespace Go.Ev
set_option maxRecDepth 10000000
theorem run20 : runKinds [(5, 1, 2), (5, 3, 3), (6, 4, 3), (1, 2, 4), (1, 3, 4), (2, 4, 4), (4, 3, 3), (5, 4, 3), (4, 1, 2)] 400 = true := by kernel_rfl
theorem seen20 : Seen [(5, 1, 2), (5, 3, 3), (6, 4, 3), (1, 2, 4), (1, 3, 4), (2, 4, 4), (4, 3, 3), (5, 4, 3), (4, 1, 2)] 400 := seen_of run20 (by decide)
end Go.Ev
