/- Some kinds of TopWitness, run by the kernel. -/
import Derived.Test.YtjdbkjfiadnjoaaGreatDoorEvE
namespace Go.Ev
set_option maxRecDepth 10000000
theorem run18 : runKinds [(5, 2, 3), (7, 1, 2), (2, 2, 4), (3, 3, 4), (4, 4, 4), (7, 3, 3), (1, 2, 3)] 400 = true := by kernel_rfl
theorem seen18 : Seen [(5, 2, 3), (7, 1, 2), (2, 2, 4), (3, 3, 4), (4, 4, 4), (7, 3, 3), (1, 2, 3)] 400 := seen_of run18 (by decide)
end Go.Ev
