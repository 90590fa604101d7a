/- Some kinds of TopWitness, run by the kernel. -/
import Derived.Test.YtjdbkjfiadnjoaaGreatDoorEvE
namespace Go.Ev
set_option maxRecDepth 10000000
theorem run11 : runKinds [(3, 2, 5), (6, 4, 5), (6, 2, 4), (3, 1, 2)] 400 = true := by kernel_rfl
theorem seen11 : Seen [(3, 2, 5), (6, 4, 5), (6, 2, 4), (3, 1, 2)] 400 := seen_of run11 (by decide)
end Go.Ev
