/- A closed fact of the tie: by itself, so that the kernel holds no more than it needs. -/
import Derived.Test.YtjdbkjfiadnjoaaGreatDoorEvL
namespace Go.Proofs.YtjdbkjfiadnjoaaGreatDoor
open Go
theorem f10 (os) (tape) : (LL.filter fun x => x.2.handleName?.isSome).all (handleAtB Tryz.prog (varsWorld Tryz.prog 400 (varsId Tryz.prog) os tape).memory) = true := by kernel_rfl
end Go.Proofs.YtjdbkjfiadnjoaaGreatDoor
