/- Some kinds of TopWitness, run by the kernel. -/
import Derived.Test.YtjdbkjfiadnjoaaGreatDoorEvE
namespace Go.Ev
set_option maxRecDepth 10000000
theorem run09 : runKinds [(6, 3, 5), (7, 1, 3), (3, 1, 4)] 400 = true := by kernel_rfl
theorem seen09 : Seen [(6, 3, 5), (7, 1, 3), (3, 1, 4)] 400 := seen_of run09 (by decide)
end Go.Ev
