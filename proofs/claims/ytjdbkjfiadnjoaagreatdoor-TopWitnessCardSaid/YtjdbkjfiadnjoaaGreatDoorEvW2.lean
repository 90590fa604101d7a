/- A closed fact of the witness. -/
import Derived.Test.YtjdbkjfiadnjoaaGreatDoorEvL
import Derived.Test.YtjdbkjfiadnjoaaGreatDoorChecked
namespace Go.Proofs.YtjdbkjfiadnjoaaGreatDoor
open Go
theorem w2 (os : Os) : (((laidW os).forCall (fun _ _ => 0) ⟨#[], #[.int .u8 0, .int .u8 0, .int .u8 0], []⟩).heap.toList.drop Tryz.checked.prog.globals.size).take ((begin Tryz.checked.prog (fun _ _ => 0) default).world.heap.size - Tryz.checked.prog.globals.size) =
    (begin Tryz.checked.prog (fun _ _ => 0) default).world.heap.toList.drop Tryz.checked.prog.globals.size := by kernel_rfl
end Go.Proofs.YtjdbkjfiadnjoaaGreatDoor
