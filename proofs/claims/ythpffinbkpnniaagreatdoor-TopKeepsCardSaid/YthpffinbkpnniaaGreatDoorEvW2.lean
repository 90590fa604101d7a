import Derived.Test.YthpffinbkpnniaaGreatDoorEvL
import Derived.Test.YthpffinbkpnniaaGreatDoorChecked
namespace Go.Proofs.YthpffinbkpnniaaGreatDoor
open Go
theorem w2(os:Os):(((laidW os).forCall (fun _ _=>0) ⟨#[],#[.agg #[.int .i64 0,.int .i64 0,.int .i64 0,.int .i64 0],.slice none 0 0],[]⟩).heap.toList.drop Tryz.checked.prog.globals.size).take ((begin Tryz.checked.prog (fun _ _=>0) default).world.heap.size-Tryz.checked.prog.globals.size)=
  (begin Tryz.checked.prog (fun _ _=>0) default).world.heap.toList.drop Tryz.checked.prog.globals.size:=by kernel_rfl
end Go.Proofs.YthpffinbkpnniaaGreatDoor
