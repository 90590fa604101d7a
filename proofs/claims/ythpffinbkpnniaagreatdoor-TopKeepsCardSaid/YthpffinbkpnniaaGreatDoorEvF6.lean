import Derived.Test.YthpffinbkpnniaaGreatDoorEvL
namespace Go.Proofs.YthpffinbkpnniaaGreatDoor
open Go
theorem f10(os)(tape):(LL.filter fun x=>x.2.handleName?.isSome).all (handleAtB Tryz.prog (varsWorld Tryz.prog 400 (varsId Tryz.prog) os tape).memory)=true:=by kernel_rfl
end Go.Proofs.YthpffinbkpnniaaGreatDoor
