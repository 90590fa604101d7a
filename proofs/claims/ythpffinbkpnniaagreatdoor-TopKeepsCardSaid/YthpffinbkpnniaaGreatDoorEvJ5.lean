import Derived.Test.YthpffinbkpnniaaGreatDoorRows
import Derived.JoinedOf
namespace Go.Proofs.YthpffinbkpnniaaGreatDoor
open Go
theorem j5a:(List.range' 0 350).all (rowFine Tryz.pinned.checked.prog)=true:=by kernel_rfl
end Go.Proofs.YthpffinbkpnniaaGreatDoor
