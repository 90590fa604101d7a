/- Closed facts of the row. -/
import Derived.Test.YtjdbkjfiadnjoaaGreatDoorRows
import Derived.JoinedOf
namespace Go.Proofs.YtjdbkjfiadnjoaaGreatDoor
open Go
theorem k2 : laidOutB Tryz.pinned.checked.prog = true := by kernel_rfl
end Go.Proofs.YtjdbkjfiadnjoaaGreatDoor
