/- Some kinds of TopWitness, run by the kernel. -/
import Derived.Test.YtjdbkjfiadnjoaaGreatDoorEvE
namespace Go.Ev
set_option maxRecDepth 10000000
theorem run16 : runKinds [(7, 4, 4), (7, 2, 3), (3, 2, 4), (4, 3, 4), (6, 4, 4), (2, 1, 1)] 400 = true := by kernel_rfl
theorem seen16 : Seen [(7, 4, 4), (7, 2, 3), (3, 2, 4), (4, 3, 4), (6, 4, 4), (2, 1, 1)] 400 := seen_of run16 (by decide)
end Go.Ev
