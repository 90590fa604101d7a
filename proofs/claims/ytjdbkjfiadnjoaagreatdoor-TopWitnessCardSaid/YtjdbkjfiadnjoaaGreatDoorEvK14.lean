/- Some kinds of TopWitness, run by the kernel. -/
import Derived.Test.YtjdbkjfiadnjoaaGreatDoorEvE
namespace Go.Ev
set_option maxRecDepth 10000000
theorem run14 : runKinds [(4, 4, 5), (2, 1, 4), (4, 2, 4), (6, 3, 4), (6, 2, 2)] 400 = true := by kernel_rfl
theorem seen14 : Seen [(4, 4, 5), (2, 1, 4), (4, 2, 4), (6, 3, 4), (6, 2, 2)] 400 := seen_of run14 (by decide)
end Go.Ev
