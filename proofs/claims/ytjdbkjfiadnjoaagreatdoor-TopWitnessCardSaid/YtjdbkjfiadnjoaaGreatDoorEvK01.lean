/- Some kinds of TopWitness, run by the kernel. -/
import Derived.Test.YtjdbkjfiadnjoaaGreatDoorEvE
namespace Go.Ev
set_option maxRecDepth 10000000
theorem run01 : runKinds [(6, 1, 5), (3, 1, 3)] 400 = true := by kernel_rfl
theorem seen01 : Seen [(6, 1, 5), (3, 1, 3)] 400 := seen_of run01 (by decide)
end Go.Ev
