/- Some kinds of TopWitness, run by the kernel. -/
import Derived.Test.YtjdbkjfiadnjoaaGreatDoorEvE
namespace Go.Ev
set_option maxRecDepth 10000000
theorem run08 : runKinds [(2, 1, 5), (4, 2, 5), (5, 4, 5)] 400 = true := by kernel_rfl
theorem seen08 : Seen [(2, 1, 5), (4, 2, 5), (5, 4, 5)] 400 := seen_of run08 (by decide)
end Go.Ev
