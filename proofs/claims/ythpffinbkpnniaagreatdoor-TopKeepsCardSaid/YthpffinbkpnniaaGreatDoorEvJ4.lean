import Derived.Test.YthpffinbkpnniaaGreatDoorRows
import Derived.JoinedOf
namespace Go.Proofs.YthpffinbkpnniaaGreatDoor
open Go
theorem k13:(Rows.topKeepsRow.named==Tryz.pinned.checked.prog.varsNamed 5)=true:=by kernel_rfl
end Go.Proofs.YthpffinbkpnniaaGreatDoor
