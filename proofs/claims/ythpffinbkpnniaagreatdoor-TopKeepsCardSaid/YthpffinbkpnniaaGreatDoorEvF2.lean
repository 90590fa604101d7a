import Derived.Test.YthpffinbkpnniaaGreatDoorEvL
namespace Go.Proofs.YthpffinbkpnniaaGreatDoor
open Go
theorem f6:varsNamedLaterB Tryz.prog (varsId Tryz.prog) LL=true:=by kernel_rfl
end Go.Proofs.YthpffinbkpnniaaGreatDoor
