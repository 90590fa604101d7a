import Derived.Test.YthpffinbkpnniaaGreatDoorRows
import Derived.JoinedOf
namespace Go.Proofs.YthpffinbkpnniaaGreatDoor
open Go
theorem k24:Tryz.pinned.checked.prog.mayEnter=true:=by kernel_rfl
theorem k22:(Rows.topKeepsRow.plainKeys==Tryz.pinned.checked.prog.plainKeys)=true:=by kernel_rfl
theorem k23b:Tryz.pinned.checked.prog.stopsHeard=true:=by kernel_rfl
theorem k25:(Rows.topKeepsRow.lifted==Tryz.pinned.checked.prog.liftsFinal)=true:=by kernel_rfl
theorem k26:(Tryz.pinned.checked.prog.make==some Rows.topKeepsRow.make)=true:=by kernel_rfl
end Go.Proofs.YthpffinbkpnniaaGreatDoor
