import Derived.Test.YthpffinbkpnniaaGreatDoorRows
import Derived.JoinedOf
namespace Go.Proofs.YthpffinbkpnniaaGreatDoor
open Go
theorem k12:(Rows.topKeepsRow.recurses==Tryz.pinned.checked.prog.recurses 5)=true:=by kernel_rfl
end Go.Proofs.YthpffinbkpnniaaGreatDoor
