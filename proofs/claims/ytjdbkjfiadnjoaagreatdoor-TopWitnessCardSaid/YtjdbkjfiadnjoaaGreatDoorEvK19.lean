/- Some kinds of TopWitness, run by the kernel. -/
import Derived.Test.YtjdbkjfiadnjoaaGreatDoorEvE
namespace Go.Ev
set_option maxRecDepth 10000000
theorem run19 : runKinds [(6, 1, 2), (2, 3, 4), (3, 4, 4), (2, 1, 3), (4, 2, 3), (6, 3, 3), (7, 4, 3), (2, 3, 3)] 400 = true := by kernel_rfl
theorem seen19 : Seen [(6, 1, 2), (2, 3, 4), (3, 4, 4), (2, 1, 3), (4, 2, 3), (6, 3, 3), (7, 4, 3), (2, 3, 3)] 400 := seen_of run19 (by decide)
end Go.Ev
