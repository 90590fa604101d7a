/- Some kinds of TopWitness, run by the kernel. -/
import Derived.Test.YtjdbkjfiadnjoaaGreatDoorEvE
namespace Go.Ev
set_option maxRecDepth 10000000
theorem run05 : runKinds [(7, 2, 5), (5, 1, 4)] 400 = true := by kernel_rfl
theorem seen05 : Seen [(7, 2, 5), (5, 1, 4)] 400 := seen_of run05 (by decide)
end Go.Ev
