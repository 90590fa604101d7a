/- A closed fact of the witness. -/
import Derived.Test.YtjdbkjfiadnjoaaGreatDoorEvL
import Derived.Test.YtjdbkjfiadnjoaaGreatDoorChecked
namespace Go.Proofs.YtjdbkjfiadnjoaaGreatDoor
open Go
theorem w1 (os : Os) : ((laidW os).forCall (fun _ _ => 0) ⟨#[], #[.int .u8 0, .int .u8 0, .int .u8 0], []⟩).variablesRefB Tryz.checked.prog = true := by kernel_rfl
end Go.Proofs.YtjdbkjfiadnjoaaGreatDoor
