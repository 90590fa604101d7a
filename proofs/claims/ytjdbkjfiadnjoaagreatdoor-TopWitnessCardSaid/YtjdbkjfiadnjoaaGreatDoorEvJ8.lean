/- Closed facts of the row, all together. -/
import Derived.Test.YtjdbkjfiadnjoaaGreatDoorEvJ1
import Derived.Test.YtjdbkjfiadnjoaaGreatDoorEvJ2
import Derived.Test.YtjdbkjfiadnjoaaGreatDoorEvJ3
import Derived.Test.YtjdbkjfiadnjoaaGreatDoorEvJ4
import Derived.Test.YtjdbkjfiadnjoaaGreatDoorEvJ5
import Derived.Test.YtjdbkjfiadnjoaaGreatDoorEvJ6
import Derived.Test.YtjdbkjfiadnjoaaGreatDoorEvJ7
import Derived.Test.YtjdbkjfiadnjoaaGreatDoorEvL
import Derived.Test.YtjdbkjfiadnjoaaGreatDoorCards
import Derived.SevenTiedAt
namespace Go.Proofs.YtjdbkjfiadnjoaaGreatDoor
open Go
set_option maxRecDepth 100000
theorem k1 : Rows.topWitnessRow.wf (OpenSpec.ofChange (OpenSpec.ofChange Rows.topWitnessSpec).bare) = true := by kernel_rfl
theorem k4 : Tryz.f3.params.all (Tryz.pinned.checked.prog.readableRec ·) = true := by kernel_rfl
theorem k5 : namedTie Tryz.pinned.checked.prog Rows.topWitnessRow.named (OpenSpec.ofChange Rows.topWitnessSpec).bare.vars = true := by kernel_rfl
theorem k6 : (Rows.topWitnessRow.stops == []) = true := by kernel_rfl
theorem k7 : (Tryz.pinned.checked.prog.stops == []) = true := by kernel_rfl
theorem k8 : (Rows.topWitnessRow.knobs == []) = true := by kernel_rfl
theorem k9 : (Tryz.pinned.checked.prog.stopKnobs == []) = true := by kernel_rfl
theorem k14 : (Rows.topWitnessRow.maps == (Tryz.f3.params.toList ++ (OpenSpec.ofChange Rows.topWitnessSpec).bare.plain.varTypes Tryz.pinned.checked.prog).any (Tryz.pinned.checked.prog.mapsRec ·)) = true := by kernel_rfl
theorem k15 : (Rows.topWitnessRow.ifaces == (Tryz.f3.params.toList ++ (OpenSpec.ofChange Rows.topWitnessSpec).bare.plain.varTypes Tryz.pinned.checked.prog).any (Tryz.pinned.checked.prog.ifacesRec ·)) = true := by kernel_rfl
theorem k16 : (Rows.topWitnessRow.mapsOut == Tryz.pinned.checked.prog.mapsAmong Tryz.f3.resultTypes.toList) = true := by kernel_rfl
theorem k17 : (Rows.topWitnessRow.loops == (Tryz.f3.params.toList ++ (OpenSpec.ofChange Rows.topWitnessSpec).bare.plain.varTypes Tryz.pinned.checked.prog).any (Tryz.pinned.checked.prog.loopsFrom ·)) = true := by kernel_rfl
theorem k17b : (Rows.topWitnessRow.wideKeys == (Tryz.f3.params.toList ++ (OpenSpec.ofChange Rows.topWitnessSpec).bare.plain.varTypes Tryz.pinned.checked.prog ++ Tryz.f3.resultTypes.toList).any (Tryz.pinned.checked.prog.wideKeysFrom ·)) = true := by kernel_rfl
theorem k18 : (OpenSpec.ofChange Rows.topWitnessSpec).bare.vars.all (Tryz.pinned.checked.prog.varReadable ·) = true := by kernel_rfl
theorem k19 : Tryz.f3.resultTypes.all (fun t => Tryz.pinned.checked.prog.readableRec t && decide (t < Tryz.pinned.checked.prog.types.size)) = true := by kernel_rfl
theorem k20 : (Rows.topWitnessRow.ifacesOut == Tryz.f3.resultTypes.toList.any (Tryz.pinned.checked.prog.ifacesRec ·)) = true := by kernel_rfl
theorem k21 : (Rows.topWitnessRow.loopsOut == Tryz.f3.resultTypes.toList.any (Tryz.pinned.checked.prog.loopsFrom ·)) = true := by kernel_rfl
theorem k23 : Rows.topWitnessRow.shortTexts.isNone = true := by kernel_rfl
theorem k27 : (Rows.topWitnessRow.kinds == (if Rows.topWitnessRow.domain.isEmpty then [] else Tryz.f3.params.toList.map fun t => match Tryz.pinned.checked.prog.underlying t with | some (.int k) => some k | _ => none)) = true := by kernel_rfl
theorem k28 : (Rows.topWitnessRow.pinned == Rows.topWitnessRow.pinnedBy) = true := by kernel_rfl
theorem k29 : (Rows.topWitnessRow.veiled == (Tryz.f3.params.toList ++ (OpenSpec.ofChange Rows.topWitnessSpec).bare.plain.varTypes Tryz.pinned.checked.prog ++ Tryz.f3.resultTypes.toList).any (Tryz.pinned.checked.prog.veiledRec ·)) = true := by kernel_rfl
theorem k30 : Rows.topWitnessRow.veiledFits Tryz.pinned.checked.prog Tryz.f3.params.toList (Tryz.f3.params.toList ++ (OpenSpec.ofChange Rows.topWitnessSpec).bare.plain.varTypes Tryz.pinned.checked.prog ++ Tryz.f3.resultTypes.toList) = true := by kernel_rfl
theorem andT {a b : Bool} (h : a = true) (g : b = true) : (a && b) = true := by rw [h, g]; rfl
theorem joined : joinedFacts Tryz.pinned.checked.prog 3 Tryz.f3 (OpenSpec.ofChange Rows.topWitnessSpec).bare Rows.topWitnessRow = true := by
  unfold joinedFacts
  exact andT (andT (andT (andT (andT (andT (andT (andT (andT (andT (andT (andT (andT (andT (andT (andT (andT (andT (andT (andT (andT (andT (andT (andT (andT (andT (andT (andT (andT (andT (andT k1 k2) k3) k4) k5) k6) k7) k8) k9) k10) k11) k12) k13) k14) k15) k16) k17) k17b) k18) k19) k20) k21) k22) k23) k23b) k24) k25) k26) k27) k28) k29) k30
theorem l1 : Tryz.checked.prog.inits.idxOf? 3 = none := by kernel_rfl
theorem l2 (os : Os) : Input.okWideB Tryz.checked.prog ((laidW os).forCall (fun _ _ => 0) ⟨#[], #[.int .u8 0, .int .u8 0, .int .u8 0], []⟩) 3 ⟨#[], #[.int .u8 0, .int .u8 0, .int .u8 0], []⟩ = true := by kernel_rfl
theorem l5 : Tryz.f3.params.size = 3 := by kernel_rfl
theorem l6 : Tryz.f3.resultTypes = #[4] := by kernel_rfl
theorem m1 : Rows.topWitnessRow.wfByText (OpenSpec.ofChange Rows.topWitnessSpec) = true := by kernel_rfl
theorem m4 : Tryz.prog.wantsStandIn 5 = false := by kernel_rfl
theorem m6 : Tryz.pinned.checked.prog.funcNamed Rows.topWitnessRow.func = some 3 := by kernel_rfl
theorem m3 : true = Tryz.pinned.checked.prog.looks [] := by kernel_rfl
theorem l8 : Tryz.f3.params.toList.all (fun t => Tryz.checked.prog.readableRec t && decide (t < Tryz.checked.prog.types.size)) = true := by kernel_rfl
end Go.Proofs.YtjdbkjfiadnjoaaGreatDoor
