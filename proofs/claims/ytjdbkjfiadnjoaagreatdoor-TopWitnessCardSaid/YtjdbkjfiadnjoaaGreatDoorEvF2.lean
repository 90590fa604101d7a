/- A closed fact of the tie: by itself, so that the kernel holds no more than it needs. -/
import Derived.Test.YtjdbkjfiadnjoaaGreatDoorEvL
namespace Go.Proofs.YtjdbkjfiadnjoaaGreatDoor
open Go
theorem f6 : varsNamedLaterB Tryz.prog (varsId Tryz.prog) LL = true := by kernel_rfl
end Go.Proofs.YtjdbkjfiadnjoaaGreatDoor
