/- Some kinds of TopWitness, run by the kernel. -/
import Derived.Test.YtjdbkjfiadnjoaaGreatDoorEvE
namespace Go.Ev
set_option maxRecDepth 10000000
theorem run02 : runKinds [(5, 1, 5), (4, 3, 5)] 400 = true := by kernel_rfl
theorem seen02 : Seen [(5, 1, 5), (4, 3, 5)] 400 := seen_of run02 (by decide)
end Go.Ev
