import Derived.Test.YthpffinbkpnniaaGreatDoorEvL
namespace Go.Proofs.YthpffinbkpnniaaGreatDoor
open Go
theorem f9(os)(tape):(DataW.laidRun Tryz.prog (varsWorld Tryz.prog 400 (varsId Tryz.prog) os tape).memory 8 ((LL.filter fun x=>x.2.handleName?.isNone).map (·.1))).map (fun x=>decide x.2.Nodup&&laidRowsB Tryz.prog (varsWorld Tryz.prog 400 (varsId Tryz.prog) os tape).memory x.2)=some true:=by kernel_rfl
end Go.Proofs.YthpffinbkpnniaaGreatDoor
