import Derived.Test.YthpffinbkpnniaaGreatDoorEvL
namespace Go.Proofs.YthpffinbkpnniaaGreatDoor
open Go
theorem f8(os)(tape):(DataW.laidRun Tryz.prog (varsWorld Tryz.prog 400 (varsId Tryz.prog) os tape).memory 8 ((LL.filter fun x=>x.2.handleName?.isNone).map (·.1))).map (·.1)=some (LL.filter fun x=>x.2.handleName?.isNone):=by kernel_rfl
end Go.Proofs.YthpffinbkpnniaaGreatDoor
