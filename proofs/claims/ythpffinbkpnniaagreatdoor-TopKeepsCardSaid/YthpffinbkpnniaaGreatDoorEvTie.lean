import Derived.Test.YthpffinbkpnniaaGreatDoorEvF1
import Derived.Test.YthpffinbkpnniaaGreatDoorEvF2
import Derived.Test.YthpffinbkpnniaaGreatDoorEvF3
import Derived.Test.YthpffinbkpnniaaGreatDoorEvF4
import Derived.Test.YthpffinbkpnniaaGreatDoorEvF5
import Derived.Test.YthpffinbkpnniaaGreatDoorEvF6
namespace Go.Proofs.YthpffinbkpnniaaGreatDoor
open Go
set_option maxRecDepth 100000
theorem pin_first : Tryz.pinned.checked.prog.pinnedFits "unicode/utf8.first" = true := by kernel_rfl
theorem noOwnUnsafe : Tryz.pinned.checked.prog.headLifts.contains "ownunsafe" = false := by kernel_rfl
theorem fits1:Tryz.pinned.checked.prog.listedFits L8=true:=by
 unfold Program.listedFits
 rw[noOwnUnsafe]
 kernel_rfl
theorem tie:Tryz.prog.laidByTextLater LL [.data,.sentinel,.sentinel,.data,.data,.data,.handle] true:=
 Program.laidByTextLater_by_run_h 400 8 f1 f2 f3 f4 f5 f6 f7 f8 f9 f10
theorem row_tie:Rows.topKeepsRow.laidByTextAt .later Tryz.pinned [.pinned,.data,.sentinel,.sentinel,.data,.data,.data,.handle] true:=
 OpenClaim.laidByTextAt_pinned rfl rfl tie rfl rfl rfl rfl (fun y hy _e=>by
  simp only[Rows.topKeepsRow,List.zip_cons_cons,List.zip_nil_right,List.mem_cons,List.mem_nil_iff,or_false] at hy
  rcases hy with rfl|rfl|rfl|rfl|rfl|rfl|rfl|rfl
  ·exact ⟨pin_first,by kernel_rfl⟩
  all_goals cases _e) fits1
end Go.Proofs.YthpffinbkpnniaaGreatDoor
