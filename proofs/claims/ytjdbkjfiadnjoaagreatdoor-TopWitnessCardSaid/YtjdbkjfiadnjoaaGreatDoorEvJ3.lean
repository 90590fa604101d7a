/- Closed facts of the row. -/
import Derived.Test.YtjdbkjfiadnjoaaGreatDoorRows
import Derived.JoinedOf
namespace Go.Proofs.YtjdbkjfiadnjoaaGreatDoor
open Go
theorem k12 : (Rows.topWitnessRow.recurses == Tryz.pinned.checked.prog.recurses 3) = true := by kernel_rfl
end Go.Proofs.YtjdbkjfiadnjoaaGreatDoor
