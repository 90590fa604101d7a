import Derived.Test.YthpffinbkpnniaaGreatDoorRows
import Derived.JoinedOf
namespace Go.Proofs.YthpffinbkpnniaaGreatDoor
open Go
theorem k3:mapsRowed Tryz.pinned.checked.prog=true:=by kernel_rfl
end Go.Proofs.YthpffinbkpnniaaGreatDoor
