/- Closed facts of the row. -/
import Derived.Test.YtjdbkjfiadnjoaaGreatDoorRows
import Derived.JoinedOf
namespace Go.Proofs.YtjdbkjfiadnjoaaGreatDoor
open Go
theorem k10 : (Rows.topWitnessRow.inPlace == Tryz.pinned.checked.prog.inPlace 3) = true := by kernel_rfl
end Go.Proofs.YtjdbkjfiadnjoaaGreatDoor
