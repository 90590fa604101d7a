import Derived.Test.YthpffinbkpnniaaGreatDoorRows
import Derived.JoinedOf
namespace Go.Proofs.YthpffinbkpnniaaGreatDoor
open Go
theorem k11:(Rows.topKeepsRow.unfollowed==Tryz.pinned.checked.prog.unfollowed 5)=true:=by kernel_rfl
end Go.Proofs.YthpffinbkpnniaaGreatDoor
