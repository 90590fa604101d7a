/- Some kinds of TopWitness, run by the kernel. -/
import Derived.Test.YtjdbkjfiadnjoaaGreatDoorEvE
namespace Go.Ev
set_option maxRecDepth 10000000
theorem run04 : runKinds [(4, 1, 5), (7, 3, 5)] 400 = true := by kernel_rfl
theorem seen04 : Seen [(4, 1, 5), (7, 3, 5)] 400 := seen_of run04 (by decide)
end Go.Ev
