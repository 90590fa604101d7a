/- Some kinds of TopWitness, run by the kernel. -/
import Derived.Test.YtjdbkjfiadnjoaaGreatDoorEvE
namespace Go.Ev
set_option maxRecDepth 10000000
theorem run15 : runKinds [(4, 1, 3), (2, 3, 5), (3, 4, 5), (5, 3, 4), (1, 1, 4)] 400 = true := by kernel_rfl
theorem seen15 : Seen [(4, 1, 3), (2, 3, 5), (3, 4, 5), (5, 3, 4), (1, 1, 4)] 400 := seen_of run15 (by decide)
end Go.Ev
