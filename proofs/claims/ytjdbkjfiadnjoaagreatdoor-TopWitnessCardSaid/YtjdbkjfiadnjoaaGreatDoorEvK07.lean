/- Some kinds of TopWitness, run by the kernel. -/
import Derived.Test.YtjdbkjfiadnjoaaGreatDoorEvE
namespace Go.Ev
set_option maxRecDepth 10000000
theorem run07 : runKinds [(3, 1, 5), (6, 2, 5), (4, 3, 2)] 400 = true := by kernel_rfl
theorem seen07 : Seen [(3, 1, 5), (6, 2, 5), (4, 3, 2)] 400 := seen_of run07 (by decide)
end Go.Ev
