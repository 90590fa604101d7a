/- Closed facts of the row. -/
import Derived.Test.YtjdbkjfiadnjoaaGreatDoorRows
import Derived.JoinedOf
namespace Go.Proofs.YtjdbkjfiadnjoaaGreatDoor
open Go
theorem k13 : (Rows.topWitnessRow.named == Tryz.pinned.checked.prog.varsNamed 3) = true := by kernel_rfl
end Go.Proofs.YtjdbkjfiadnjoaaGreatDoor
