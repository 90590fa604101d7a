import Derived.Test.YthpffinbkpnniaaGreatDoorEvL
import Derived.Test.YthpffinbkpnniaaGreatDoorChecked
namespace Go.Proofs.YthpffinbkpnniaaGreatDoor
open Go
theorem w5(os:Os):(base0 os).layFits Tryz.prog NH []=true:=by kernel_rfl
theorem w6(os:Os):(base0 os).layIfaces Tryz.prog NH (laidW os)=true:=by kernel_rfl
theorem w7(os:Os):(L8.filter fun x=>x.2.handleName?.isSome).all (handleAtB Tryz.prog (laidW os))=true:=by kernel_rfl
end Go.Proofs.YthpffinbkpnniaaGreatDoor
