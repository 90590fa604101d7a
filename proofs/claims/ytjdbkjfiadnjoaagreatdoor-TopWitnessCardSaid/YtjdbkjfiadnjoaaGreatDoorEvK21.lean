/- Some kinds of TopWitness, run by the kernel. -/
import Derived.Test.YtjdbkjfiadnjoaaGreatDoorEvE
namespace Go.Ev
set_option maxRecDepth 10000000
theorem run21 : runKinds [(1, 4, 4), (7, 2, 2), (1, 1, 3), (2, 2, 3), (3, 3, 3), (3, 4, 3), (4, 4, 3), (2, 4, 3), (5, 2, 2), (7, 3, 2), (2, 1, 2), (4, 2, 2), (1, 2, 2)] 400 = true := by kernel_rfl
theorem seen21 : Seen [(1, 4, 4), (7, 2, 2), (1, 1, 3), (2, 2, 3), (3, 3, 3), (3, 4, 3), (4, 4, 3), (2, 4, 3), (5, 2, 2), (7, 3, 2), (2, 1, 2), (4, 2, 2), (1, 2, 2)] 400 := seen_of run21 (by decide)
end Go.Ev
