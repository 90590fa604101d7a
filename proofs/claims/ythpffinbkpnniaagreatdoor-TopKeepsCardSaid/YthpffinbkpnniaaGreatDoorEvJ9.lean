import Derived.Test.YthpffinbkpnniaaGreatDoorEvJ5
namespace Go.Proofs.YthpffinbkpnniaaGreatDoor
open Go
set_option maxRecDepth 100000
theorem j5b:(List.range' 350 (Tryz.pinned.checked.prog.types.size-350)).all (rowFine Tryz.pinned.checked.prog)=true:=by kernel_rfl
theorem j5s:Nat.ble 350 Tryz.pinned.checked.prog.types.size=true:=by kernel_rfl
theorem j5c:Tryz.pinned.checked.prog.globals.all (fun g=>decide (g.type<Tryz.pinned.checked.prog.types.size))=true:=by kernel_rfl
theorem j5d:Tryz.pinned.checked.prog.funcs.all (fun f=>f.params.all fun t=>decide (t<Tryz.pinned.checked.prog.types.size))=true:=by kernel_rfl
theorem laid_two{P:Program}{n:Nat}(a:(List.range' 0 n).all (rowFine P)=true)(b:(List.range' n (P.types.size-n)).all (rowFine P)=true)(s:Nat.ble n P.types.size=true)(c:P.globals.all (fun g=>decide (g.type<P.types.size))=true)(d:P.funcs.all (fun f=>f.params.all fun t=>decide (t<P.types.size))=true):laidOutB P=true:=by
 have h:=Nat.le_of_ble_eq_true s
 have e:List.range P.types.size=List.range' 0 n++List.range' n (P.types.size-n):=by
  have:=List.range'_append_1 (s:=0) (m:=n) (n:=P.types.size-n)
  rw[Nat.zero_add] at this
  rw[this,List.range_eq_range',show n+(P.types.size-n)=P.types.size by omega]
 unfold laidOutB
 rw[e,List.all_append,a,b,c,d]
 rfl
theorem k2:laidOutB Tryz.pinned.checked.prog=true:=laid_two (n:=350) j5a j5b j5s j5c j5d
end Go.Proofs.YthpffinbkpnniaaGreatDoor
