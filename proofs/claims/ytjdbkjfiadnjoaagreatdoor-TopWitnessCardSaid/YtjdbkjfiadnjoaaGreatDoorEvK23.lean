/- Some kinds of TopWitness, run by the kernel. -/
import Derived.Test.YtjdbkjfiadnjoaaGreatDoorEvE
namespace Go.Ev
set_option maxRecDepth 10000000
theorem run23 : runKinds [(4, 3, 1), (5, 3, 1), (5, 4, 1), (6, 3, 1), (6, 4, 1), (7, 4, 1), (1, 2, 1), (1, 3, 1), (1, 4, 1), (2, 2, 1), (2, 3, 1), (2, 4, 1), (3, 3, 1), (3, 4, 1), (4, 4, 1)] 400 = true := by kernel_rfl
theorem seen23 : Seen [(4, 3, 1), (5, 3, 1), (5, 4, 1), (6, 3, 1), (6, 4, 1), (7, 4, 1), (1, 2, 1), (1, 3, 1), (1, 4, 1), (2, 2, 1), (2, 3, 1), (2, 4, 1), (3, 3, 1), (3, 4, 1), (4, 4, 1)] 400 := seen_of run23 (by decide)
end Go.Ev
