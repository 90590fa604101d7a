/- Closed facts of the row. -/
import Derived.Test.YtjdbkjfiadnjoaaGreatDoorRows
import Derived.JoinedOf
namespace Go.Proofs.YtjdbkjfiadnjoaaGreatDoor
open Go
theorem k11 : (Rows.topWitnessRow.unfollowed == Tryz.pinned.checked.prog.unfollowed 3) = true := by kernel_rfl
end Go.Proofs.YtjdbkjfiadnjoaaGreatDoor
