import Derived.Test.YthpffinbkpnniaaGreatDoorEvJ8
namespace Go.Proofs.YthpffinbkpnniaaGreatDoor
open Go
theorem goes_none{P:Program}(h:P.funcs.any Func.goes=false)(f:FuncId):P.goes f=false:=by
 unfold Program.goes
 rw[h,Bool.and_false,Bool.or_false,List.any_eq_false]
 intro g _
 cases hg:P.funcs[g]? with
 |none=>simp
 |some fn=>
  obtain⟨hi,rfl⟩:=Array.getElem?_eq_some_iff.1 hg
  simpa using (Array.any_eq_false.1 h) g hi
theorem noGo:Tryz.pinned.checked.prog.funcs.any Func.goes=false:=by kernel_rfl
theorem m5:false=Rows.topKeepsRow.goesBy Tryz.pinned.checked.prog:=by
 unfold OpenClaim.goesBy Program.goesAt Program.goesFrom
 rw[m6,Option.any_some,goes_none noGo]
 rfl
end Go.Proofs.YthpffinbkpnniaaGreatDoor
