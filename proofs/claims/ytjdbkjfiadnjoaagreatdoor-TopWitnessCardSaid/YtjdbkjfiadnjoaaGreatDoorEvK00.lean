/- Some kinds of TopWitness, run by the kernel. -/
import Derived.Test.YtjdbkjfiadnjoaaGreatDoorEvE
namespace Go.Ev
set_option maxRecDepth 10000000
theorem run00 : runKinds [(7, 1, 5), (3, 2, 2)] 400 = true := by kernel_rfl
theorem seen00 : Seen [(7, 1, 5), (3, 2, 2)] 400 := seen_of run00 (by decide)
end Go.Ev
