import Derived.Test.YthpffinbkpnniaaGreatDoorEvL
namespace Go.Proofs.YthpffinbkpnniaaGreatDoor
open Go
theorem f1:Tryz.prog.worded (varsWordLater true)=true:=by kernel_rfl
theorem f2:Tryz.prog.worded (varsWordLater !true)=false:=by kernel_rfl
theorem f3:Tryz.prog.worded rootWordLater=true:=by kernel_rfl
theorem f4:LL.map (fun x=>Tryz.prog.kindOfLater x.1)= [LaidKind.data,.sentinel,.sentinel,.data,.data,.data,.handle].map some:=by kernel_rfl
theorem f5 : (Tryz.prog.funcNamed "gosem.cut.vars").isSome = true := by kernel_rfl
end Go.Proofs.YthpffinbkpnniaaGreatDoor
