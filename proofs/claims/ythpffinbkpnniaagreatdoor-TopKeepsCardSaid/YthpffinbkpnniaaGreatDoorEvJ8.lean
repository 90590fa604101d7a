import Derived.Test.YthpffinbkpnniaaGreatDoorEvJ1
import Derived.Test.YthpffinbkpnniaaGreatDoorEvJ2
import Derived.Test.YthpffinbkpnniaaGreatDoorEvJ3
import Derived.Test.YthpffinbkpnniaaGreatDoorEvJ4
import Derived.Test.YthpffinbkpnniaaGreatDoorEvJ9
import Derived.Test.YthpffinbkpnniaaGreatDoorEvJ6
import Derived.Test.YthpffinbkpnniaaGreatDoorEvJ7
import Derived.Test.YthpffinbkpnniaaGreatDoorEvL
import Derived.Test.YthpffinbkpnniaaGreatDoorCards
import Derived.SevenTiedAt
namespace Go.Proofs.YthpffinbkpnniaaGreatDoor
open Go
set_option maxRecDepth 100000
theorem k1:Rows.topKeepsRow.wf (OpenSpec.ofChange (OpenSpec.ofChange Rows.topKeepsSpec).bare)=true:=by kernel_rfl
theorem k4:Tryz.f5.params.all (Tryz.pinned.checked.prog.readableRec ·)=true:=by kernel_rfl
theorem k5:namedTie Tryz.pinned.checked.prog Rows.topKeepsRow.named (OpenSpec.ofChange Rows.topKeepsSpec).bare.vars=true:=by kernel_rfl
theorem k6:(Rows.topKeepsRow.stops== [])=true:=by kernel_rfl
theorem k7:(Tryz.pinned.checked.prog.stops== [])=true:=by kernel_rfl
theorem k8:(Rows.topKeepsRow.knobs== [])=true:=by kernel_rfl
theorem k9:(Tryz.pinned.checked.prog.stopKnobs== [])=true:=by kernel_rfl
theorem k14:(Rows.topKeepsRow.maps==(Tryz.f5.params.toList++(OpenSpec.ofChange Rows.topKeepsSpec).bare.plain.varTypes Tryz.pinned.checked.prog).any (Tryz.pinned.checked.prog.mapsRec ·))=true:=by kernel_rfl
theorem k15:(Rows.topKeepsRow.ifaces==(Tryz.f5.params.toList++(OpenSpec.ofChange Rows.topKeepsSpec).bare.plain.varTypes Tryz.pinned.checked.prog).any (Tryz.pinned.checked.prog.ifacesRec ·))=true:=by kernel_rfl
theorem k16:(Rows.topKeepsRow.mapsOut==Tryz.pinned.checked.prog.mapsAmong Tryz.f5.resultTypes.toList)=true:=by kernel_rfl
theorem k17:(Rows.topKeepsRow.loops==(Tryz.f5.params.toList++(OpenSpec.ofChange Rows.topKeepsSpec).bare.plain.varTypes Tryz.pinned.checked.prog).any (Tryz.pinned.checked.prog.loopsFrom ·))=true:=by kernel_rfl
theorem k17b:(Rows.topKeepsRow.wideKeys==(Tryz.f5.params.toList++(OpenSpec.ofChange Rows.topKeepsSpec).bare.plain.varTypes Tryz.pinned.checked.prog++Tryz.f5.resultTypes.toList).any (Tryz.pinned.checked.prog.wideKeysFrom ·))=true:=by kernel_rfl
theorem k18:(OpenSpec.ofChange Rows.topKeepsSpec).bare.vars.all (Tryz.pinned.checked.prog.varReadable ·)=true:=by kernel_rfl
theorem k19:Tryz.f5.resultTypes.all (fun t=>Tryz.pinned.checked.prog.readableRec t&&decide (t<Tryz.pinned.checked.prog.types.size))=true:=by kernel_rfl
theorem k20:(Rows.topKeepsRow.ifacesOut==Tryz.f5.resultTypes.toList.any (Tryz.pinned.checked.prog.ifacesRec ·))=true:=by kernel_rfl
theorem k21:(Rows.topKeepsRow.loopsOut==Tryz.f5.resultTypes.toList.any (Tryz.pinned.checked.prog.loopsFrom ·))=true:=by kernel_rfl
theorem k23:Rows.topKeepsRow.shortTexts.isNone=true:=by kernel_rfl
theorem k27:(Rows.topKeepsRow.kinds==(if Rows.topKeepsRow.domain.isEmpty then [] else Tryz.f5.params.toList.map fun t=>match Tryz.pinned.checked.prog.underlying t with|some (.int k)=>some k|_=>none))=true:=by kernel_rfl
theorem k28:(Rows.topKeepsRow.pinned==Rows.topKeepsRow.pinnedBy)=true:=by kernel_rfl
theorem k29:(Rows.topKeepsRow.veiled==(Tryz.f5.params.toList++(OpenSpec.ofChange Rows.topKeepsSpec).bare.plain.varTypes Tryz.pinned.checked.prog++Tryz.f5.resultTypes.toList).any (Tryz.pinned.checked.prog.veiledRec ·))=true:=by kernel_rfl
theorem k30:Rows.topKeepsRow.veiledFits Tryz.pinned.checked.prog Tryz.f5.params.toList (Tryz.f5.params.toList++(OpenSpec.ofChange Rows.topKeepsSpec).bare.plain.varTypes Tryz.pinned.checked.prog++Tryz.f5.resultTypes.toList)=true:=by kernel_rfl
theorem andT{a b:Bool}(h:a=true)(g:b=true):(a&&b)=true:=by rw[h,g];rfl
theorem joined:joinedFacts Tryz.pinned.checked.prog 5 Tryz.f5 (OpenSpec.ofChange Rows.topKeepsSpec).bare Rows.topKeepsRow=true:=by
 unfold joinedFacts
 exact andT (andT (andT (andT (andT (andT (andT (andT (andT (andT (andT (andT (andT (andT (andT (andT (andT (andT (andT (andT (andT (andT (andT (andT (andT (andT (andT (andT (andT (andT (andT k1 k2) k3) k4) k5) k6) k7) k8) k9) k10) k11) k12) k13) k14) k15) k16) k17) k17b) k18) k19) k20) k21) k22) k23) k23b) k24) k25) k26) k27) k28) k29) k30
theorem l1:Tryz.checked.prog.inits.idxOf? 5=none:=by kernel_rfl
theorem l2(os:Os):Input.okWideB Tryz.checked.prog ((laidW os).forCall (fun _ _=>0) ⟨#[],#[.agg #[.int .i64 0,.int .i64 0,.int .i64 0,.int .i64 0],.slice none 0 0],[]⟩) 5 ⟨#[],#[.agg #[.int .i64 0,.int .i64 0,.int .i64 0,.int .i64 0],.slice none 0 0],[]⟩=true:=by kernel_rfl
theorem l5:Tryz.f5.params.size=2:=by kernel_rfl
theorem l6:Tryz.f5.resultTypes= #[4]:=by kernel_rfl
theorem m1:Rows.topKeepsRow.wfByText (OpenSpec.ofChange Rows.topKeepsSpec)=true:=by kernel_rfl
theorem m4:Tryz.f5.params.toList.all (fun t=>!Tryz.prog.wantsStandIn t)=true:=by kernel_rfl
theorem m6:Tryz.pinned.checked.prog.funcNamed Rows.topKeepsRow.func=some 5:=by kernel_rfl
theorem m3:true=Tryz.pinned.checked.prog.looks []:=by kernel_rfl
theorem l8:Tryz.f5.params.toList.all (fun t=>Tryz.checked.prog.readableRec t&&decide (t<Tryz.checked.prog.types.size))=true:=by kernel_rfl
end Go.Proofs.YthpffinbkpnniaaGreatDoor
