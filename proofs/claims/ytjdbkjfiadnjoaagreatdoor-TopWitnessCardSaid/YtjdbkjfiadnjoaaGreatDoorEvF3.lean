/- A closed fact of the tie: by itself, so that the kernel holds no more than it needs. -/
import Derived.Test.YtjdbkjfiadnjoaaGreatDoorEvL
namespace Go.Proofs.YtjdbkjfiadnjoaaGreatDoor
open Go
theorem f7 (os) (tape) : varsDone Tryz.prog 400 (varsId Tryz.prog) os tape = true := by kernel_rfl
end Go.Proofs.YtjdbkjfiadnjoaaGreatDoor
