import Derived.Test.YthpffinbkpnniaaGreatDoorEvL
import Derived.Test.YthpffinbkpnniaaGreatDoorChecked
namespace Go.Proofs.YthpffinbkpnniaaGreatDoor
open Go
theorem w1(os:Os):((laidW os).forCall (fun _ _=>0) ⟨#[],#[.agg #[.int .i64 0,.int .i64 0,.int .i64 0,.int .i64 0],.slice none 0 0],[]⟩).variablesRefB Tryz.checked.prog=true:=by kernel_rfl
end Go.Proofs.YthpffinbkpnniaaGreatDoor
