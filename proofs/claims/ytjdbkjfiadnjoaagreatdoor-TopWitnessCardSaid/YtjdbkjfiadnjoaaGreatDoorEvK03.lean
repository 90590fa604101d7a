/- Some kinds of TopWitness, run by the kernel. -/
import Derived.Test.YtjdbkjfiadnjoaaGreatDoorEvE
namespace Go.Ev
set_option maxRecDepth 10000000
theorem run03 : runKinds [(7, 1, 4), (4, 1, 4), (1, 1, 1)] 400 = true := by kernel_rfl
theorem seen03 : Seen [(7, 1, 4), (4, 1, 4), (1, 1, 1)] 400 := seen_of run03 (by decide)
end Go.Ev
