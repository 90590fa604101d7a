import Derived.Test.YthpffinbkpnniaaGreatDoorM24
import Derived.ChangeOld
import Derived.Deep.DeepHandedRow
import Derived.Deep.OwnRows
import Derived.Deep.RegionHeld3
import Derived.Deep.Slices
import Derived.Ground.GgzProg
import Derived.Ground.SlgmProg
import Derived.Laws.Rows
import Derived.Lib.Hide
import Derived.Lib.LaidTab
import Derived.Lib.SmallJoins
import Derived.OpenShut
import Derived.Outline
import Derived.ProofKit
import Derived.Shelf.Abstract
import Derived.Shelf.SlIterI.Nil
import Derived.Shelf.SlIterI.Sorted
import Derived.Shelf.SortM.Plain
import Derived.Shelf.SortM.SortNone
import Derived.ShutString
import Derived.Stop.LaidErr
import Derived.WalkKit
set_option linter.all false
set_option maxRecDepth 100000
section
open Go Go.Ev Go.Proofs
open Tryz
section
namespace Go.Proofs
open Go.RowKit Go.Maps Go.Sort Go.Shelf
def Tryz.yh:Go.Shelf.Ren:=⟨λ|10=>76|n=>n,λ|33=>214|23=>140|0=>0|4=>4|26=>3|3=>141|n=>n,λ|n=>n⟩
def Tryz.aae:Go.Proofs.SlLaysZI.n10 Tryz.prog Tryz.yh:={
 mixed:=G
 f10:=⟨f76.name,I,G⟩
 t0:=Tryz.underlying0
 a0:=Tryz.isAgg0
 z0:=Tryz.sizeOf0
 v0:=Tryz.zeroValue0
 t4:=Tryz.underlying4
 a4:=Tryz.isAgg4
 z4:=Tryz.sizeOf4
 v4:=Tryz.zeroValue4
 t23:=Tryz.underlying140
 a23:=Tryz.isAgg140
 z23:=Tryz.sizeOf140
 v23:=Tryz.zeroValue140
 t26:=Tryz.underlying3
 a26:=Tryz.isAgg3
 z26:=Tryz.sizeOf3
 v26:=Tryz.zeroValue3
 t33:=Tryz.underlying214
 a33:=Tryz.isAgg214
 z33:=Tryz.sizeOf214
 v33:=Tryz.zeroValue214}
def Tryz.yg:Go.Shelf.Ren:=⟨λ|10=>126|n=>n,λ|33=>214|23=>208|0=>0|4=>4|26=>3|3=>212|n=>n,λ|n=>n⟩
def Tryz.aad:Go.Proofs.SlLaysZI.n10 Tryz.prog Tryz.yg:={
 mixed:=G
 f10:=⟨f126.name,I,G⟩
 t0:=Tryz.underlying0
 a0:=Tryz.isAgg0
 z0:=Tryz.sizeOf0
 v0:=Tryz.zeroValue0
 t4:=Tryz.underlying4
 a4:=Tryz.isAgg4
 z4:=Tryz.sizeOf4
 v4:=Tryz.zeroValue4
 t23:=Tryz.underlying208
 a23:=Tryz.isAgg208
 z23:=Tryz.sizeOf208
 v23:=Tryz.zeroValue208
 t26:=Tryz.underlying3
 a26:=Tryz.isAgg3
 z26:=Tryz.sizeOf3
 v26:=Tryz.zeroValue3
 t33:=Tryz.underlying214
 a33:=Tryz.isAgg214
 z33:=Tryz.sizeOf214
 v33:=Tryz.zeroValue214}
def Tryz.yf:Go.Shelf.Ren:=⟨λ|10=>270|n=>n,λ|33=>214|23=>381|0=>0|4=>4|26=>3|3=>4|n=>n,λ|n=>n⟩
def Tryz.aac:Go.Proofs.SlLaysZI.n10 Tryz.prog Tryz.yf:={
 mixed:=G
 f10:=⟨f270.name,I,G⟩
 t0:=Tryz.underlying0
 a0:=Tryz.isAgg0
 z0:=Tryz.sizeOf0
 v0:=Tryz.zeroValue0
 t4:=Tryz.underlying4
 a4:=Tryz.isAgg4
 z4:=Tryz.sizeOf4
 v4:=Tryz.zeroValue4
 t23:=Tryz.underlying381
 a23:=Tryz.isAgg381
 z23:=Tryz.sizeOf381
 v23:=Tryz.zeroValue381
 t26:=Tryz.underlying3
 a26:=Tryz.isAgg3
 z26:=Tryz.sizeOf3
 v26:=Tryz.zeroValue3
 t33:=Tryz.underlying214
 a33:=Tryz.isAgg214
 z33:=Tryz.sizeOf214
 v33:=Tryz.zeroValue214}
def Tryz.ye:Go.Shelf.Ren:=⟨λ|10=>569|n=>n,λ|33=>214|23=>218|0=>0|4=>4|26=>3|3=>3|n=>n,λ|n=>n⟩
def Tryz.aab:Go.Proofs.SlLaysZI.n10 Tryz.prog Tryz.ye:={
 mixed:=G
 f10:=⟨f569.name,I,G⟩
 t0:=Tryz.underlying0
 a0:=Tryz.isAgg0
 z0:=Tryz.sizeOf0
 v0:=Tryz.zeroValue0
 t4:=Tryz.underlying4
 a4:=Tryz.isAgg4
 z4:=Tryz.sizeOf4
 v4:=Tryz.zeroValue4
 t23:=Tryz.underlying218
 a23:=Tryz.isAgg218
 z23:=Tryz.sizeOf218
 v23:=Tryz.zeroValue218
 t26:=Tryz.underlying3
 a26:=Tryz.isAgg3
 z26:=Tryz.sizeOf3
 v26:=Tryz.zeroValue3
 t33:=Tryz.underlying214
 a33:=Tryz.isAgg214
 z33:=Tryz.sizeOf214
 v33:=Tryz.zeroValue214}
def Tryz.yG:Go.Shelf.Ren:=⟨λ|6=>46|8=>74|9=>75|11=>127|13=>129|12=>128|23=>198|24=>199|14=>189|15=>190|16=>191|17=>192|18=>193|19=>194|20=>195|21=>196|22=>197|25=>271|26=>272|27=>273|28=>274|29=>275|30=>276|31=>352|n=>n,λ|26=>3|28=>138|24=>32|0=>0|3=>3|37=>79|48=>275|50=>407|4=>4|40=>399|39=>398|45=>43|5=>5|9=>9|51=>468|55=>168|57=>524|58=>525|33=>214|n=>n,λ|n=>n⟩
def Tryz.Tj:Go.Proofs.SlLaysZI.n6 Tryz.prog Tryz.yG:={
 mixed:=G
 f6:=⟨f46.name,I,G⟩
 f8:=⟨f74.name,I,G⟩
 f11:=⟨f127.name,I,G⟩
 t0:=Tryz.underlying0
 a0:=Tryz.isAgg0
 z0:=Tryz.sizeOf0
 v0:=Tryz.zeroValue0
 t24:=Tryz.underlying32
 a24:=Tryz.isAgg32
 z24:=Tryz.sizeOf32
 v24:=Tryz.zeroValue32
 t26:=Tryz.underlying3
 a26:=Tryz.isAgg3
 z26:=Tryz.sizeOf3
 v26:=Tryz.zeroValue3
 t28:=Tryz.underlying138
 a28:=Tryz.isAgg138
 z28:=Tryz.sizeOf138
 v28:=Tryz.zeroValue138
 i26:=G}
def Tryz.Wv:Go.Shelf.Ren:=⟨λ|5=>75|8=>129|7=>128|19=>198|20=>199|10=>189|11=>190|12=>191|13=>192|14=>193|15=>194|16=>195|17=>196|18=>197|30=>271|31=>272|32=>273|33=>274|34=>275|35=>276|40=>352|n=>n,λ|23=>32|25=>3|3=>3|32=>79|22=>32|0=>0|44=>275|46=>407|4=>4|36=>399|35=>398|41=>43|5=>5|9=>9|53=>468|57=>168|63=>524|64=>525|n=>n,λ|n=>n⟩
def Tryz.a9P:Go.Proofs.SlLaysM.n5 Tryz.prog Tryz.Wv:={
 mixed:=G
 f5:=⟨f75.name,I,G⟩
 f7:=⟨f128.name,I,G⟩
 f8:=G
 f10:=⟨f189.name,I,G⟩
 f11:=⟨f190.name,I,G⟩
 f12:=⟨f191.name,I,G⟩
 f13:=⟨f192.name,I,G⟩
 f14:=⟨f193.name,I,G⟩
 f15:=⟨f194.name,I,G⟩
 f16:=⟨f195.name,I,G⟩
 f17:=⟨f196.name,I,G⟩
 f18:=⟨f197.name,I,G⟩
 f19:=G
 f20:=G
 f30:=⟨f271.name,I,G⟩
 f31:=G
 f32:=G
 f33:=⟨f274.name,I,G⟩
 f34:=⟨f275.name,I,G⟩
 f35:=⟨f276.name,I,G⟩
 f40:=⟨f352.name,I,G⟩
 t0:=Tryz.underlying0
 a0:=Tryz.isAgg0
 z0:=Tryz.sizeOf0
 v0:=Tryz.zeroValue0
 t3:=Tryz.underlying3
 a3:=Tryz.isAgg3
 z3:=Tryz.sizeOf3
 v3:=Tryz.zeroValue3
 t4:=Tryz.underlying4
 a4:=Tryz.isAgg4
 z4:=Tryz.sizeOf4
 v4:=Tryz.zeroValue4
 t5:=Tryz.underlying5
 a5:=Tryz.isAgg5
 z5:=Tryz.sizeOf5
 v5:=Tryz.zeroValue5
 t9:=Tryz.underlying9
 a9:=Tryz.isAgg9
 z9:=Tryz.sizeOf9
 v9:=Tryz.zeroValue9
 t22:=Tryz.underlying32
 a22:=Tryz.isAgg32
 z22:=Tryz.sizeOf32
 v22:=Tryz.zeroValue32
 t23:=Tryz.underlying32
 a23:=Tryz.isAgg32
 z23:=Tryz.sizeOf32
 v23:=Tryz.zeroValue32
 t25:=Tryz.underlying3
 a25:=Tryz.isAgg3
 z25:=Tryz.sizeOf3
 v25:=Tryz.zeroValue3
 t32:=Tryz.underlying79
 a32:=Tryz.isAgg79
 z32:=Tryz.sizeOf79
 v32:=Tryz.zeroValue79
 t35:=Tryz.underlying398
 a35:=Tryz.isAgg398
 z35:=Tryz.sizeOf398
 v35:=Tryz.zeroValue398
 t36:=Tryz.underlying399
 a36:=Tryz.isAgg399
 z36:=Tryz.sizeOf399
 v36:=Tryz.zeroValue399
 t41:=Tryz.underlying43
 a41:=Tryz.isAgg43
 z41:=Tryz.sizeOf43
 v41:=Tryz.zeroValue43
 t44:=Tryz.underlying275
 a44:=Tryz.isAgg275
 z44:=Tryz.sizeOf275
 v44:=Tryz.zeroValue275
 t46:=Tryz.underlying407
 a46:=Tryz.isAgg407
 z46:=Tryz.sizeOf407
 v46:=Tryz.zeroValue407
 t53:=Tryz.underlying468
 a53:=Tryz.isAgg468
 z53:=Tryz.sizeOf468
 v53:=Tryz.zeroValue468
 t57:=Tryz.underlying168
 a57:=Tryz.isAgg168
 z57:=Tryz.sizeOf168
 v57:=Tryz.zeroValue168
 t63:=Tryz.underlying524
 a63:=Tryz.isAgg524
 z63:=Tryz.sizeOf524
 v63:=Tryz.zeroValue524
 t64:=Tryz.underlying525
 a64:=Tryz.isAgg525
 z64:=Tryz.sizeOf525
 v64:=Tryz.zeroValue525}
def Tryz.a1U(m:Nat):AnyZI.SortsIn Tryz.prog Tryz.yG Fence.wide m:=
 ⟨λblk off cap ss aEX hH aq7 YG=>callsIn_wide.2 (AnyM.slices_Sort_int Tryz.a9P blk off cap ss aEX hH aq7 YG),
  λp cap aEX=>callsIn_wide.2 (AnyM.slices_Sort_int_none Tryz.a9P p cap aEX)⟩
end Go.Proofs
namespace Go.Ev
open Go.RowKit Go.Maps Go.Sort Go.Shelf
def tf(g:FuncId)(hu:Tryz.prog.underlying 3=some (.int .i64))(h1:Tryz.prog.cellsOf 3=1)(e75:∀args w,(callFunc 75 args).run Tryz.prog w= .ok (.enter 75 args) w)(e46:∀args w,(callFunc 46 args).run Tryz.prog w= .ok (.enter 46 args) w)
  (eg:∀args w,(callFunc g args).run Tryz.prog w= .ok (.enter g args) w)
  (air:∀(b nn Bm:Nat) (D0:DataW Unit) (R:Value->Option (DataW Unit×List MemPlace)) (w:World),w.ownsMap Tryz.prog 3 R b nn D0->Bm<w.heap.size->w.cell? ⟨Bm,0,none⟩=some (.map (some b))->SeqGives Fence.wide 2 Tryz.prog g #[.pointer (some ⟨Bm,0,none⟩)] encZ (λss=>ss.Perm (intKeys D0)) (Maps.size D0) w)
  (ai5:∀(Bm:Nat) (w:World),Bm<w.heap.size->w.cell? ⟨Bm,0,none⟩=some (.map none)->SeqGives Fence.wide 2 Tryz.prog g #[.pointer (some ⟨Bm,0,none⟩)] encZ (λss:dC=>ss= []) 0 w):
  Nl Tryz.prog 46 g 3 where
 key:=hu
 one:=h1
 enters:=e46
 full:=by
  intro b nn Bm D0 R w r8 YG zA hc
  exact(callsIn_wide (n:=5)).1 (AnyZI.sorted_in Tryz.Tj Fence.wide 5 trivial trivial trivial trivial rfl Z (Tryz.a1U _) e75 g _ trivial eg _ _ (by simp[maxLen];omega) Z w (air b nn Bm D0 R w r8 zA hc))
 none:=by
  intro Bm w zA hc
  refine(callsIn_wide (n:=5)).1 ((AnyZI.sorted_in Tryz.Tj Fence.wide 5 trivial trivial trivial trivial rfl Z (Tryz.a1U _) e75 g _ trivial eg _ 0 G Z w (ai5 Bm w zA hc)).mono ?_)
  grind
def x46{C:Ctx}:cN Tryz.prog C (.sorted 3 [76,126,270,569]) 46:=by
 have hu:Tryz.prog.underlying 3=some (.int .i64):=E7
 have h1:Tryz.prog.cellsOf 3=1:=E7
 have e75:=enters_of func75 G rfl
 have e46:=enters_of func46 G rfl
 refine RH λg hg=>?_
 simp only[fY,lG,or_false] at hg
 rcases hg with rfl|rfl|rfl|rfl
 .exact tf 76 hu h1 e75 e46 (enters_of func76 G rfl)
   (λb nn Bm D0 R w r8 zA hc=>AnyZI.keys_gives (ρ:=Tryz.yh) {Tryz.aae with} Fence.wide _ trivial rfl Z Bm b nn D0 w zA hc r8)
   (λBm w zA hc=>AnyZI.keys_gives_nil (ρ:=Tryz.yh) {Tryz.aae with} Fence.wide _ trivial rfl Bm w zA hc)
 .exact tf 126 hu h1 e75 e46 (enters_of func126 G rfl)
   (λb nn Bm D0 R w r8 zA hc=>AnyZI.keys_gives (ρ:=Tryz.yg) {Tryz.aad with} Fence.wide _ trivial rfl Z Bm b nn D0 w zA hc r8)
   (λBm w zA hc=>AnyZI.keys_gives_nil (ρ:=Tryz.yg) {Tryz.aad with} Fence.wide _ trivial rfl Bm w zA hc)
 .exact tf 270 hu h1 e75 e46 (enters_of func270 G rfl)
   (λb nn Bm D0 R w r8 zA hc=>AnyZI.keys_gives (ρ:=Tryz.yf) {Tryz.aac with} Fence.wide _ trivial rfl Z Bm b nn D0 w zA hc r8)
   (λBm w zA hc=>AnyZI.keys_gives_nil (ρ:=Tryz.yf) {Tryz.aac with} Fence.wide _ trivial rfl Bm w zA hc)
 .exact tf 569 hu h1 e75 e46 (enters_of func569 G rfl)
   (λb nn Bm D0 R w r8 zA hc=>AnyZI.keys_gives (ρ:=Tryz.ye) {Tryz.aab with} Fence.wide _ trivial rfl Z Bm b nn D0 w zA hc r8)
   (λBm w zA hc=>AnyZI.keys_gives_nil (ρ:=Tryz.ye) {Tryz.aab with} Fence.wide _ trivial rfl Bm w zA hc)
end Go.Ev
end
end
section
namespace Go.Proofs.Cw
open Go.RowKit
def nT{a w:World}(h:Below a.heap.size a w)(o:Obj):Below a.heap.size a (w.alloc o):=h.alloc h.size o
def MX{a w:World}(h:Below a.heap.size a w):Below a.heap.size a w.drew:=h.drew
def Fx{a w:World}(h:Below a.heap.size a w)(n:Nat):Below a.heap.size a (w.drewN n):=⟨h.os,h.tape,h.output,h.size,h.block⟩
def VB{a w:World}(h:Below a.heap.size a w){p:Addr}(hp:a.heap.size<=p.block)(u:Value):Below a.heap.size a (w.setCell p u):=h.setCell hp u
def Fw{a w w':World}(h:Below a.heap.size a w)(k:Below w.heap.size w w'):Below a.heap.size a w':=h.trans (k.mono h.size)
def My(w:World)(n:Nat)(o:Obj):(w.drewN n).alloc o=(w.alloc o).drewN n:=rfl
def DP(w:World)(n:Nat)(a:Addr)(v:Value):(w.drewN n).setCell a v=(w.setCell a v).drewN n:=rfl
end Go.Proofs.Cw
namespace Go.Proofs.Cw
open Go.RowKit
end Go.Proofs.Cw
namespace Go.Proofs.Cw
open Go.RowKit
end Go.Proofs.Cw
namespace Go.Proofs.Cw
open Go.RowKit
def dS(w:World)(g:Nat)(t:TypeId)(cs:List Value):Prop:=w.heap[g]? =some (.cells cs.toArray t (0,0))
section
variable {w w':World} {g:Nat} {t:TypeId} {cs:List Value}
def dS.lt(h:dS w g t cs):g<w.heap.size:=by
 rcases dN g w.heap.size with hl|hge
 .trivial
 .unfold dS at h;grind
def dS.cell(h:dS w g t cs)(i:Nat):w.cell? ⟨g,i,none⟩=cs[i]? :=by rw[cell_of_row w g i cs.toArray t (0,0) h];simp
def dS.frozen(h:dS w g t cs)(i:Nat):w.frozen? ⟨g,i,none⟩=false:=by
 unfold dS at h
 simp[World.frozen?,h]
def dS.new(w:World)(t:TypeId)(cs:List Value):dS (w.alloc (.cells cs.toArray t)) w.heap.size t cs:=by
 show(w.heap.push _)[w.heap.size]? =_
 simp
def dS.drewN(h:dS w g t cs)(n:Nat):dS (w.drewN n) g t cs:=h
def dS.alloc(h:dS w g t cs)(o:Obj):dS (w.alloc o) g t cs:=(Below.heap_alloc w o g h.lt).trans h
def dS.a1Z(h:dS w g t cs)(i:Nat)(u:Value):dS (w.setCell ⟨g,i,none⟩ u) g t (cs.set i u):=by
 unfold dS at h ⊢
 simp[World.setCell,a1i,h]
def dS.far(h:dS w g t cs){p:Addr}(hp:g≠p.block)(u:Value):dS (w.setCell p u) g t cs:=(Below.heap_setCell w p u g hp).trans h
def dS.below{aF1:Nat}(h:dS w g t cs)(hb:Below aF1 w w')(hg:g<aF1):dS w' g t cs:=(hb.block g hg).trans h
def dS.ah(h:dS w g t cs)(hb:Below w.heap.size w w'):dS w' g t cs:=h.below hb h.lt
end
def filled(n k:Nat)(f:Nat->Value)(z:Value):List Value:=(List.range n).map λj=>if j<k then f j else z
def RF(n k:Nat)(f:Nat->Value)(z:Value):(filled n k f z).length=n:=by simp[filled]
def eN{n k i:Nat}(f:Nat->Value)(z:Value)(hi:i<n):(filled n k f z)[i]? =some (if i<k then f i else z):=by simp[filled,hi]
def oE(n k:Nat)(f:Nat->Value)(z:Value):(filled n k f z).set k (f k)=filled n (k+1) f z:=by
 apply FJ
 intro i
 rw[List.getElem?_set]
 by_cases hik:k=i
 .subst hik
  by_cases hn:k<n
  .simp [filled,hn]
  .simp [filled,hn]
 .simp only[hik,if_false]
  by_cases hn:i<n
  .rw [eN f z hn,eN f z hn]
   grind
  .simp [filled,hn]
end Go.Proofs.Cw
namespace Go.Proofs.Cw
open Go.RowKit
def vZ{P:Program}(t e:TypeId)(zv:Value)(z:Array Value)(size bytes:Nat)(ht:P.underlying t=some (.slice e))(Uv:(P.info? e).map (λi=>(i.zero,i.size,i.bytes))=some (some zv,size,bytes))(hz1:zv.cells=z)
  (kl kc:IntKind) (n:Nat) (aq5:bytes*n<=281474976710656) (h63:n<=9223372036854775807) (w:World):
  (Instr.makeSlice t (.int kl (n:Int)) (.int kc (n:Int))).run P w= .ok (.slice (some ⟨w.heap.size,0,none⟩) n n) (w.alloc (.cells (madeCells z (n*size)) e)):=by
 obtain⟨i,hi,hzz⟩:=Oc.1 Uv
 simp only[Prod.mk.injEq] at hzz
 obtain⟨hz,hs,hb⟩:=hzz
 have hb':(i.bytes:Int)*(n:Int)<=281474976710656:=by
  have h:((i.bytes*n:Nat):Int)<=281474976710656:=by rw[hb];omega
  rwa [Int.natCast_mul] at h
 have hr:=run_make (P:=P) w t e i zv ht hi hz kl kc n n Z Z hb' Z
 grind
def wJ(z:Value)(n:Nat)(f:Nat->Value):madeCells #[z,z,z] n=(filled n 0 f z).toArray:=by
 apply Array.ext_getElem?
 intro i
 by_cases hi:i<n
 .have h3:i%3=0\/i%3=1\/i%3=2:=by omega
  rcases h3 with h|h|h<;>simp[madeCells,filled,hi,h]
 .simp [madeCells,filled,hi]
def Mn(n k:Nat)(f:Nat->Value)(z:Value)(h:f k=z):filled n k f z=filled n (k+1) f z:=by
 apply FJ
 intro i
 by_cases hn:i<n
 .rw [eN f z hn,eN f z hn]
  grind
 .simp [filled,hn]
end Go.Proofs.Cw
namespace Go.Proofs.Cw
def Eo{aEV:Exit->Act->World->Prop}{e:Exit}{a:Act}{w:World}(h:∀aEX,aEX=w->aEV e a aEX):aEV e a w:=W
end Go.Proofs.Cw
end
namespace Go.Proofs.Cw
open Go.RowKit
section
attribute [local go_sem] My DP
def kI(j:Nat):Value:=if j%3=2 then .int .i64 0 else .int .i64 (-1)
def acC(k:Nat):kI (k*3)= .int .i64 (-1):=by unfold kI;rw[if_neg (by omega)]
def acB(k:Nat):kI (k*3+1)= .int .i64 (-1):=by unfold kI;rw[if_neg (by omega)]
def acA(k:Nat):kI (k*3+2)= .int .i64 0:=by unfold kI;rw[if_pos (by omega)]
def rC(w:World):Calls Tryz.prog 180 #[] w λe w'=>e= .returned (.agg #[.int .i64 (-1),.int .i64 (-1)])/\w.alloc (.cells #[.int .i64 (-1),.int .i64 (-1)] 375)=w':=by
 go_enter Tryz.func180,Tryz.ntmps180
 go_wp2_with fail
 exact bodyPost_ret (v:=.agg #[.int .i64 (-1),.int .i64 (-1)]) (by simp[results,Tryz.results180,go_sem]) rfl ⟨rfl,rfl⟩
structure sV(w:World)(C Nb Lb n l a b:Nat):Prop where
 rc:dS w C 373 [.slice (some ⟨Nb,0,none⟩) n n,.slice (some ⟨Lb,0,none⟩) l l]
 rn:dS w Nb 378 (filled (n*3) a (λ_=>.int .i64 (-1)) (.int .i64 0))
 rl:dS w Lb 380 (filled (l*3) b kI (.int .i64 0))
 h1:C≠Nb
 h2:C≠Lb
 h3:Nb≠Lb
def a0r(w:World)(n l:Nat)(e:Ending)(w':World):Prop:=∃C Nb Lb,e= .returned (.pointer (some ⟨C,0,none⟩))/\sV w' C Nb Lb n l (n*3) (l*3)/\Below w.heap.size w w'/\w.heap.size<=C/\w.heap.size<=Nb/\w.heap.size<=Lb
def aa9{w:World}{C Nb a b c o:Nat}{x y z v:Value}{ob:Obj}(h:w.cell? ⟨C,o,none⟩=some v)(hC:C<w.heap.size)(xl:C≠Nb):
  ((((w.setCell ⟨Nb,a,none⟩ x).setCell ⟨Nb,b,none⟩ y).setCell ⟨Nb,c,none⟩ z).alloc ob).drew.cell? ⟨C,o,none⟩=some v:=by
 have e:=λ(aEX:World) (p:Addr) (u:Value) (hp:p.block=Nb)=>World.cell?_setCell_other aEX p ⟨C,o,none⟩ u (by rintro rfl;exact xl hp)
 have e2:=λ(aEX:World) (hW:C<aEX.heap.size)=>Below.cell (((Below.refl aEX.heap.size aEX).alloc (Nat.le_refl _) ob).drew) (p:=⟨C,o,none⟩) hW
 rw[e2 _ (by simpa [World.setCell] using hC),e _ _ _ rfl,e _ _ _ rfl,e _ _ _ rfl,h]
def aaa{w:World}{C Nb a b o:Nat}{x y v:Value}{ob:Obj}(h:w.cell? ⟨C,o,none⟩=some v)(hC:C<w.heap.size)(xl:C≠Nb):
  (((w.setCell ⟨Nb,a,none⟩ x).setCell ⟨Nb,b,none⟩ y).alloc ob).drew.cell? ⟨C,o,none⟩=some v:=by
 have e:=λ(aEX:World) (p:Addr) (u:Value) (hp:p.block=Nb)=>World.cell?_setCell_other aEX p ⟨C,o,none⟩ u (by rintro rfl;exact xl hp)
 have e2:=λ(aEX:World) (hW:C<aEX.heap.size)=>Below.cell (((Below.refl aEX.heap.size aEX).alloc (Nat.le_refl _) ob).drew) (p:=⟨C,o,none⟩) hW
 rw[e2 _ (by simpa [World.setCell] using hC),e _ _ _ rfl,e _ _ _ rfl,h]
def sV.node{w:World}{C Nb Lb n l k b:Nat}(h:sV w C Nb Lb n l (k*3) b)(o:Obj):
  sV ((((w.setCell ⟨Nb,k*3,none⟩ (.int .i64 (-1))).setCell ⟨Nb,k*3+1,none⟩ (.int .i64 (-1))).setCell ⟨Nb,k*3+2,none⟩ (.int .i64 (-1))).alloc o).drew C Nb Lb n l ((k+1)*3) b where
 rc:=dS.drewN ((((h.rc.far (p:=⟨Nb,k*3,none⟩) h.h1 _).far (p:=⟨Nb,k*3+1,none⟩) h.h1 _).far (p:=⟨Nb,k*3+2,none⟩) h.h1 _).alloc o) 1
 rl:=dS.drewN ((((h.rl.far (p:=⟨Nb,k*3,none⟩) (Ne.symm h.h3) _).far (p:=⟨Nb,k*3+1,none⟩) (Ne.symm h.h3) _).far (p:=⟨Nb,k*3+2,none⟩) (Ne.symm h.h3) _).alloc o) 1
 rn:=by
  have:=dS.drewN ((((h.rn.a1Z (k*3) (.int .i64 (-1))).a1Z (k*3+1) (.int .i64 (-1))).a1Z (k*3+2) (.int .i64 (-1))).alloc o) 1
  rwa [oE _ (k*3) (λ_=>.int .i64 (-1)),oE _ (k*3+1) (λ_=>.int .i64 (-1)),oE _ (k*3+2) (λ_=>.int .i64 (-1)),show k*3+2+1=(k+1)*3 by omega] at this
 h1:=h.h1
 h2:=h.h2
 h3:=h.h3
def sV.list{w:World}{C Nb Lb n l k a:Nat}(h:sV w C Nb Lb n l a (k*3))(o:Obj):
  sV (((w.setCell ⟨Lb,k*3,none⟩ (.int .i64 (-1))).setCell ⟨Lb,k*3+1,none⟩ (.int .i64 (-1))).alloc o).drew C Nb Lb n l a ((k+1)*3) where
 rc:=dS.drewN (((h.rc.far (p:=⟨Lb,k*3,none⟩) h.h2 _).far (p:=⟨Lb,k*3+1,none⟩) h.h2 _).alloc o) 1
 rn:=dS.drewN (((h.rn.far (p:=⟨Lb,k*3,none⟩) h.h3 _).far (p:=⟨Lb,k*3+1,none⟩) h.h3 _).alloc o) 1
 rl:=by
  have:=dS.drewN (((h.rl.a1Z (k*3) (.int .i64 (-1))).a1Z (k*3+1) (.int .i64 (-1))).alloc o) 1
  have e0:=oE (l*3) (k*3) kI (.int .i64 0)
  have e1:=oE (l*3) (k*3+1) kI (.int .i64 0)
  rw[acC] at e0
  rw[acB] at e1
  rwa [e0,e1,Mn _ (k*3+1+1) _ _ (acA k),show k*3+1+1+1=(k+1)*3 by omega] at this
 h1:=h.h1
 h2:=h.h2
 h3:=h.h3
def VI(w:World)(C Nb Lb n l:Nat)(i:Value)(wr:World):Prop:=∃k:Nat,k<=n/\i= .int .i64 k/\sV wr C Nb Lb n l (k*3) 0/\Below w.heap.size w wr
def VH(w:World)(C Nb Lb n l:Nat)(i:Value)(wr:World):Prop:=∃k:Nat,k<=l/\i= .int .i64 k/\sV wr C Nb Lb n l (n*3) (k*3)/\Below w.heap.size w wr
set_option maxHeartbeats 4000000 in
def DS(l n:Nat)(w:World)(h1:l<=1048576)(h2:n<=1048576):
  Calls Tryz.prog 115 #[.int .i64 l,.int .i64 n] w (a0r w n l):=by
 have Uv:(Tryz.prog.info? 378).map (λi=>(i.zero,i.size,i.bytes))=some (some (.agg #[.int .i64 0,.int .i64 0,.int .i64 0]),3,24):=by kernel_rfl
 have a4d:(Tryz.prog.info? 380).map (λi=>(i.zero,i.size,i.bytes))=some (some (.agg #[.int .i64 0,.int .i64 0,.int .i64 0]),3,24):=by kernel_rfl
 have hmk:=vZ (P:=Tryz.prog) 370 378 _ #[.int .i64 0,.int .i64 0,.int .i64 0] 3 24 Tryz.underlying370 Uv rfl .i64 .i64 n (by omega) (by omega)
 have aie:=vZ (P:=Tryz.prog) 371 380 _ #[.int .i64 0,.int .i64 0,.int .i64 0] 3 24 Tryz.underlying371 a4d rfl .i64 .i64 l (by omega) (by omega)
 rw[wJ _ _ (λ_=>.int .i64 (-1))] at hmk
 rw[wJ _ _ kI] at aie
 clear Uv a4d
 have g1:(0:Int)<=(l:Int):=by omega
 have g2:(0:Int)<=(n:Int):=by omega
 have g3:(l:Int)<=1048576:=by omega
 have g4:(n:Int)<=1048576:=by omega
 go_enter Tryz.func115,Tryz.ntmps115
 go_wp2_with fail
 go_region
 all_goals clear hmk aie
 .refine Eo ?_
  intro aEX hW
  have hN:sV aEX (w.heap.size+1+1) (w.heap.size) (w.heap.size+1) n l 0 0:=by
   rw[hW]
   have q0:=dS.new ((w.alloc (.cells (filled (n*3) 0 (λ_=>.int .i64 (-1)) (.int .i64 0)).toArray 378)).alloc (.cells (filled (l*3) 0 kI (.int .i64 0)).toArray 380)) 373 [.slice (some ⟨w.heap.size,0,none⟩) n n,.slice (some ⟨w.heap.size+1,0,none⟩) l l]
   have q1:=((dS.new w 378 (filled (n*3) 0 (λ_=>.int .i64 (-1)) (.int .i64 0))).alloc (.cells (filled (l*3) 0 kI (.int .i64 0)).toArray 380)).alloc (.cells #[.slice (some ⟨w.heap.size,0,none⟩) n n,.slice (some ⟨w.heap.size+1,0,none⟩) l l] 373)
   have q2:=(dS.new (w.alloc (.cells (filled (n*3) 0 (λ_=>.int .i64 (-1)) (.int .i64 0)).toArray 378)) 380 (filled (l*3) 0 kI (.int .i64 0))).alloc (.cells #[.slice (some ⟨w.heap.size,0,none⟩) n n,.slice (some ⟨w.heap.size+1,0,none⟩) l l] 373)
   simp only[World.size_alloc] at q0 q1 q2
   exact {rc:=q0,rn:=q1,rl:=q2,h1:=by omega,h2:=by omega,h3:=by omega}
  have hB:Below w.heap.size w aEX:=by rw[hW];exact(by repeat (first|exact Below.refl _ _|assumption|refine MX ?_|refine Fx ?_ _|refine nT ?_ _|refine VB ?_ (by first|(dsimp only;omega)|(simp;done)|(simp;omega)) _|refine Fw ?_ (by assumption)))
  clear hW
  obtain⟨C,hC⟩:∃C,w.heap.size+1+1=C:=⟨_,rfl⟩
  obtain⟨Nb,hNb⟩:∃Nb,w.heap.size=Nb:=⟨_,rfl⟩
  obtain⟨Lb,hLb⟩:∃Lb,w.heap.size+1=Lb:=⟨_,rfl⟩
  have b1:w.heap.size<=C:=by omega
  have b2:w.heap.size<=Nb:=by omega
  have b3:w.heap.size<=Lb:=by omega
  rw[hC,hLb,hNb] at hN
  rw[hC]
  rw[hLb,hNb]
  clear hC hNb hLb
  have HN:=Lib.hid hN
  have HB:=Lib.hid hB
  have c0:aEX.cell? ⟨C,0,none⟩=some (.slice (some ⟨Nb,0,none⟩) n n):=by rw[hN.rc.cell];rfl
  clear hN hB
  go_wp2_with fail
  clear c0
  go_loopw [34] (λi wr=>VI w C Nb Lb n l i wr) (λi _=>n-(intOf i).toNat)
  case atStart=>exact⟨0,Nat.zero_le _,rfl,by simpa using HN.out,HB.out⟩
  case round=>
   clear HN HB
   obtain⟨k,hk,rfl,hA,vf⟩:=hrel
   have c0:wr.cell? ⟨C,0,none⟩=some (.slice (some ⟨Nb,0,none⟩) n n):=by rw[hA.rc.cell];rfl
   have c1:wr.cell? ⟨C,1,none⟩=some (.slice (some ⟨Lb,0,none⟩) l l):=by rw[hA.rc.cell];rfl
   have l1:=hA.rn.lt
   have l2:=hA.rc.lt
   have a1:=hA.h1
   have HA:=Lib.hid hA
   have HBL:=Lib.hid vf
   have j1:(0:Int)<=(k:Int):=by omega
   by_cases mO:(k:Int)<n
   .have s0:wr.cell? ⟨Nb,k*3,none⟩=some (.int .i64 0):=by rw[hA.rn.cell,eN _ _ (by omega),if_neg (by omega)]
    have s1:wr.cell? ⟨Nb,k*3+1,none⟩=some (.int .i64 0):=by rw[hA.rn.cell,eN _ _ (by omega),if_neg (by omega)]
    have s2:wr.cell? ⟨Nb,k*3+2,none⟩=some (.int .i64 0):=by rw[hA.rn.cell,eN _ _ (by omega),if_neg (by omega)]
    have f0:∀j,wr.frozen? ⟨Nb,j,none⟩=false:=hA.rn.frozen
    clear hA vf c1
    go_wp2_with fail
    go_region_held3 (λw'=>w'.cell? ⟨C,0,none⟩=some (.slice (some ⟨Nb,0,none⟩) n n)) (first|with_reducible exact aa9 c0 l2 a1|go_keep) (first|(go_at_call 180;refine(rC _).mono ?_;rintro e w5 ⟨rfl,rfl⟩))
    go_wp2_with fail
    go_roundw
    case rel=>
     refine⟨k+1,by omega,by go_num,HA.out.node _,?_⟩
     exact(nT (((HBL.out.setCell (by dsimp only;omega) _).setCell (by dsimp only;omega) _).setCell (by dsimp only;omega) _) _).drew
    case measure=>simp[intOf];omega
   .obtain rfl:k=n:=by omega
    clear hA vf c0
    go_wp2_with fail
    go_loopw [52] (λi wr=>VH w C Nb Lb k l i wr) (λi _=>l-(intOf i).toNat)
    case atStart=>exact⟨0,Nat.zero_le _,rfl,by simpa using HA.out,HBL.out⟩
    case round=>
     clear HA HBL
     obtain⟨m,hm,rfl,hA,vf⟩:=hrel
     have c0:wr.cell? ⟨C,0,none⟩=some (.slice (some ⟨Nb,0,none⟩) k k):=by rw[hA.rc.cell];rfl
     have c1:wr.cell? ⟨C,1,none⟩=some (.slice (some ⟨Lb,0,none⟩) l l):=by rw[hA.rc.cell];rfl
     have l3:=hA.rl.lt
     have l2:=hA.rc.lt
     have a2:=hA.h2
     have HA:=Lib.hid hA
     have HBL:=Lib.hid vf
     have j1:(0:Int)<=(m:Int):=by omega
     by_cases apy:(m:Int)<l
     .have s0:wr.cell? ⟨Lb,m*3,none⟩=some (.int .i64 0):=by rw[hA.rl.cell,eN _ _ (by omega),if_neg (by omega)]
      have s1:wr.cell? ⟨Lb,m*3+1,none⟩=some (.int .i64 0):=by rw[hA.rl.cell,eN _ _ (by omega),if_neg (by omega)]
      have f0:∀j,wr.frozen? ⟨Lb,j,none⟩=false:=hA.rl.frozen
      clear hA vf c0
      go_wp2_with fail
      go_region_held3 (λw'=>w'.cell? ⟨C,1,none⟩=some (.slice (some ⟨Lb,0,none⟩) l l)) (first|with_reducible exact aaa c1 l2 a2|go_keep) (first|(go_at_call 180;refine(rC _).mono ?_;rintro e w5 ⟨rfl,rfl⟩))
      go_wp2_with fail
      go_roundw
      case rel=>
       refine⟨m+1,by omega,by go_num,HA.out.list _,?_⟩
       exact(nT ((HBL.out.setCell (by dsimp only;omega) _).setCell (by dsimp only;omega) _) _).drew
      case measure=>simp[intOf];omega
     .obtain rfl:m=l:=by omega
      clear hA vf c0 c1
      go_wp2_with fail
      go_ret
      exact⟨C,Nb,Lb,rfl,HA.out,HBL.out,b1,b2,b3⟩
 .refine Eo ?_
  intro aEX hW
  have hN:sV aEX (w.heap.size+1+1) (w.heap.size+1) (w.heap.size) n l 0 0:=by
   rw[hW]
   have q0:=dS.new ((w.alloc (.cells (filled (l*3) 0 kI (.int .i64 0)).toArray 380)).alloc (.cells (filled (n*3) 0 (λ_=>.int .i64 (-1)) (.int .i64 0)).toArray 378)) 373 [.slice (some ⟨w.heap.size+1,0,none⟩) n n,.slice (some ⟨w.heap.size,0,none⟩) l l]
   have q1:=((dS.new w 380 (filled (l*3) 0 kI (.int .i64 0))).alloc (.cells (filled (n*3) 0 (λ_=>.int .i64 (-1)) (.int .i64 0)).toArray 378)).alloc (.cells #[.slice (some ⟨w.heap.size+1,0,none⟩) n n,.slice (some ⟨w.heap.size,0,none⟩) l l] 373)
   have q2:=(dS.new (w.alloc (.cells (filled (l*3) 0 kI (.int .i64 0)).toArray 380)) 378 (filled (n*3) 0 (λ_=>.int .i64 (-1)) (.int .i64 0))).alloc (.cells #[.slice (some ⟨w.heap.size+1,0,none⟩) n n,.slice (some ⟨w.heap.size,0,none⟩) l l] 373)
   simp only[World.size_alloc] at q0 q1 q2
   exact {rc:=q0,rl:=q1,rn:=q2,h1:=by omega,h2:=by omega,h3:=by omega}
  have hB:Below w.heap.size w aEX:=by rw[hW];exact(by repeat (first|exact Below.refl _ _|assumption|refine MX ?_|refine Fx ?_ _|refine nT ?_ _|refine VB ?_ (by first|(dsimp only;omega)|(simp;done)|(simp;omega)) _|refine Fw ?_ (by assumption)))
  clear hW
  obtain⟨C,hC⟩:∃C,w.heap.size+1+1=C:=⟨_,rfl⟩
  obtain⟨Nb,hNb⟩:∃Nb,w.heap.size+1=Nb:=⟨_,rfl⟩
  obtain⟨Lb,hLb⟩:∃Lb,w.heap.size=Lb:=⟨_,rfl⟩
  have b1:w.heap.size<=C:=by omega
  have b2:w.heap.size<=Nb:=by omega
  have b3:w.heap.size<=Lb:=by omega
  rw[hC,hNb,hLb] at hN
  rw[hC]
  rw[hNb,hLb]
  clear hC hNb hLb
  have HN:=Lib.hid hN
  have HB:=Lib.hid hB
  have c0:aEX.cell? ⟨C,0,none⟩=some (.slice (some ⟨Nb,0,none⟩) n n):=by rw[hN.rc.cell];rfl
  clear hN hB
  go_wp2_with fail
  clear c0
  go_loopw [34] (λi wr=>VI w C Nb Lb n l i wr) (λi _=>n-(intOf i).toNat)
  case atStart=>exact⟨0,Nat.zero_le _,rfl,by simpa using HN.out,HB.out⟩
  case round=>
   clear HN HB
   obtain⟨k,hk,rfl,hA,vf⟩:=hrel
   have c0:wr.cell? ⟨C,0,none⟩=some (.slice (some ⟨Nb,0,none⟩) n n):=by rw[hA.rc.cell];rfl
   have c1:wr.cell? ⟨C,1,none⟩=some (.slice (some ⟨Lb,0,none⟩) l l):=by rw[hA.rc.cell];rfl
   have l1:=hA.rn.lt
   have l2:=hA.rc.lt
   have a1:=hA.h1
   have HA:=Lib.hid hA
   have HBL:=Lib.hid vf
   have j1:(0:Int)<=(k:Int):=by omega
   by_cases mO:(k:Int)<n
   .have s0:wr.cell? ⟨Nb,k*3,none⟩=some (.int .i64 0):=by rw[hA.rn.cell,eN _ _ (by omega),if_neg (by omega)]
    have s1:wr.cell? ⟨Nb,k*3+1,none⟩=some (.int .i64 0):=by rw[hA.rn.cell,eN _ _ (by omega),if_neg (by omega)]
    have s2:wr.cell? ⟨Nb,k*3+2,none⟩=some (.int .i64 0):=by rw[hA.rn.cell,eN _ _ (by omega),if_neg (by omega)]
    have f0:∀j,wr.frozen? ⟨Nb,j,none⟩=false:=hA.rn.frozen
    clear hA vf c1
    go_wp2_with fail
    go_region_held3 (λw'=>w'.cell? ⟨C,0,none⟩=some (.slice (some ⟨Nb,0,none⟩) n n)) (first|with_reducible exact aa9 c0 l2 a1|go_keep) (first|(go_at_call 180;refine(rC _).mono ?_;rintro e w5 ⟨rfl,rfl⟩))
    go_wp2_with fail
    go_roundw
    case rel=>
     refine⟨k+1,by omega,by go_num,HA.out.node _,?_⟩
     exact(nT (((HBL.out.setCell (by dsimp only;omega) _).setCell (by dsimp only;omega) _).setCell (by dsimp only;omega) _) _).drew
    case measure=>simp[intOf];omega
   .obtain rfl:k=n:=by omega
    clear hA vf c0
    go_wp2_with fail
    go_loopw [52] (λi wr=>VH w C Nb Lb k l i wr) (λi _=>l-(intOf i).toNat)
    case atStart=>exact⟨0,Nat.zero_le _,rfl,by simpa using HA.out,HBL.out⟩
    case round=>
     clear HA HBL
     obtain⟨m,hm,rfl,hA,vf⟩:=hrel
     have c0:wr.cell? ⟨C,0,none⟩=some (.slice (some ⟨Nb,0,none⟩) k k):=by rw[hA.rc.cell];rfl
     have c1:wr.cell? ⟨C,1,none⟩=some (.slice (some ⟨Lb,0,none⟩) l l):=by rw[hA.rc.cell];rfl
     have l3:=hA.rl.lt
     have l2:=hA.rc.lt
     have a2:=hA.h2
     have HA:=Lib.hid hA
     have HBL:=Lib.hid vf
     have j1:(0:Int)<=(m:Int):=by omega
     by_cases apy:(m:Int)<l
     .have s0:wr.cell? ⟨Lb,m*3,none⟩=some (.int .i64 0):=by rw[hA.rl.cell,eN _ _ (by omega),if_neg (by omega)]
      have s1:wr.cell? ⟨Lb,m*3+1,none⟩=some (.int .i64 0):=by rw[hA.rl.cell,eN _ _ (by omega),if_neg (by omega)]
      have f0:∀j,wr.frozen? ⟨Lb,j,none⟩=false:=hA.rl.frozen
      clear hA vf c0
      go_wp2_with fail
      go_region_held3 (λw'=>w'.cell? ⟨C,1,none⟩=some (.slice (some ⟨Lb,0,none⟩) l l)) (first|with_reducible exact aaa c1 l2 a2|go_keep) (first|(go_at_call 180;refine(rC _).mono ?_;rintro e w5 ⟨rfl,rfl⟩))
      go_wp2_with fail
      go_roundw
      case rel=>
       refine⟨m+1,by omega,by go_num,HA.out.list _,?_⟩
       exact(nT ((HBL.out.setCell (by dsimp only;omega) _).setCell (by dsimp only;omega) _) _).drew
      case measure=>simp[intOf];omega
     .obtain rfl:m=l:=by omega
      clear hA vf c0 c1
      go_wp2_with fail
      go_ret
      exact⟨C,Nb,Lb,rfl,HA.out,HBL.out,b1,b2,b3⟩
end
end Go.Proofs.Cw
namespace Go.Ev
open Go Go.Proofs.Cw
open Go.RowKit (Below)
variable{h h' lu:Heap}{t tn:Nat}{w':World}
section
variable {P:Program} {C:Ctx} {ρ iD:Ren}
def aO.named{S:World}{o:O}{aF1:pE}(w:aO P C iD lu S)(r:aO P C ρ h w')(n:Le iD lu S ρ h w')
  (hb:S.heap.size<=aF1.b) (LO:aF1.b<w'.heap.size) (l:∀i D,ρ i=some D->D.b≠aF1.b) (hn:h'.nx=h.nx+1) (p:∀j,bL j h'=if j=h.nx then o else bL j h)
  (L:fL P (ext1 ρ h.nx aF1) o aF1 w'.heap[aF1.b]?):
  aO P C (ext1 ρ h.nx aF1) h' w'/\Le iD lu S (ext1 ρ h.nx aF1) h' w':=by
 have e:∀i D,ρ i=some D->ext1 ρ h.nx aF1 i=some D:=λi D F=>by unfold ext1;rw[aj U1];trivial
 have q:∀j D,j≠h.nx->ext1 ρ h.nx aF1 j=some D->ρ j=some D:=λj D z hD=>by unfold ext1 at hD;grind
 have fH:∀D,ext1 ρ h.nx aF1 h.nx=some D->D=aF1:=λD hD=>by unfold ext1 at hD;grind
 have hnx:=n.nx;refine⟨⟨λi D F=>?_,λi D F=>?_,λi j D E F z k y he=>?_,λg H c=>?_⟩,⟨λi D F=>e i D (n.xh i D F),n.size,λb u R=>⟨(n.frame b u R).1,?_⟩,Z,λi F s=>?_,n.aside⟩⟩
 .by_cases A:i=h.nx
  .grind
  .have:=r.pW i D W;omega
 .by_cases A:i=h.nx
  .grind
  .rw [p,aj A];exact(r.obj i D W).mono e
 .by_cases A:i=h.nx<;>by_cases N:j=h.nx
  .omega
  .grind
  .grind
  .rw [p,aj A] at k;rw[p,aj N] at y;exact r.inj i j D E W W k y he
 .obtain ⟨g1,m,t,f,N,M⟩:=r.iP g H c;obtain⟨g2,xs0,t0,fr0,h20,_⟩:=w.iP g H c;have hgs:g<S.heap.size:=by
   rcases dN g S.heap.size with h|h
   .exact h
   .grind
  refine⟨λi D F k ti=>?_,m,t,f,N,λj v hv=>let ⟨x,a,b⟩:=M j v hv;⟨x,a,b.mono e⟩⟩;grind
 .rintro ⟨i,D,F,he,hl⟩;by_cases A:i=h.nx
  .grind
  .rw [p,aj A] at hl;exact(n.frame b u R).2 ⟨i,D,q i D A F,he,hl⟩
 .obtain ⟨f1,d⟩:=n.fresh i F s;refine⟨W,?_⟩;unfold ext1;grind
structure a9G(P:Program)(f:FuncId)(tc tn tl:TypeId):Prop where
 enters:∀args w,(callFunc f args).run P w= .ok (.enter f args) w
 cc:P.cellsOf tc=2
 cn:P.cellsOf tn=3
 cl:P.cellsOf tl=3
 made:∀(l n:Nat) (w:World),l<=1048576->n<=1048576->Calls P f #[.int .i64 l,.int .i64 n] w λe w'=>∃c Nb Lb,e= .returned (.pointer (some ⟨c,0,none⟩))/\
  (dS w' c tc [.slice (some ⟨Nb,0,none⟩) n n,.slice (some ⟨Lb,0,none⟩) l l]/\dS w' Nb tn (filled (n*3) (n*3) (λ_=>.int .i64 (-1)) (.int .i64 0))/\dS w' Lb tl (filled (l*3) (l*3) kI (.int .i64 0))/\c≠Nb/\c≠Lb/\Nb≠Lb)/\
  Below w.heap.size w w'/\w.heap.size<=c/\w.heap.size<=Nb/\w.heap.size<=Lb
def agI{w:World}{b n:Nat}{z:ay}{f:Nat->Value}{s:Value}{c:Cells}(d:dS w b t (filled (n*3) (n*3) f s))(hc:P.cellsOf t=3)(e:vk z c)(C:z.length=3)(A:∀v∈z,v.de=true)
  (hf:∀j v,z[j%3]? =some v->aW ρ v (f j)):fL P ρ (.row t (n*3) 0 true z c) ⟨b,n,3⟩ w.heap[b]? :=by
 rw[show w.heap[b]? =_ from d];have i:((filled (n*3) (n*3) f s).toArray).size=n*3:=by simp[RF]
 refine⟨_,(0,0),rfl,λ_=>i,λ_=>hc,Z,Z,Z,λj a=>?_⟩;have R:j%3<z.length:=Z;refine .inr ⟨z[j%3],f j,by rw[zj e,C,bT R],?_,A _ (eL R),hf j _ (bT R)⟩;rw[a17,eN _ _ a,ao a]
def HS{f:FuncId}{r tl:Nat}(hf:a9G P f r tn tl):cN P C (.mB r tn tl) f:=by
 intro args h k ρ m w S hr hH;obtain⟨v,x,u,y,t,H,L,S⟩:=Fz hr S;obtain⟨l,rfl,S⟩:=lZ H S;rcases jK.1 S with⟨l,rfl,S⟩|⟨_,_,S⟩
 case inr=>trivial
 obtain⟨n,rfl,S⟩:=lZ L S;rcases jK.1 S with⟨n,rfl,S⟩|⟨_,_,S⟩
 case inr=>trivial
 obtain⟨hl1,S⟩:=aN.1 S;obtain⟨R,S⟩:=aN.1 S;have hl1:=bh hl1;have R:=bh R;rw[ea,ea] at S;obtain⟨cn,S,hcn⟩:=eQ S;obtain⟨E,S,zy⟩:=eQ S;obtain⟨cc,S,hcc⟩:=eQ S;obtain⟨A,S,n1,s⟩:=eE S;obtain⟨N,S,q,g2⟩:=eE S;obtain⟨c2,S,hc2⟩:=jI S;obtain⟨M,S,n3,g3⟩:=eE S;refine .inr ⟨hf.enters _ _,(callsIn_wide (n:=0)).2 ?_⟩;rw[pC t];refine(hf.made l n w Z Z).mono ?_;rintro e w' ⟨c,g,a,rfl,⟨rc,rn,p,d1,d2,d3⟩,HH,b1,b2,b3⟩;obtain⟨H0,L0⟩:=hH.below HH;have f1:∀i D,ρ i=some D->D.b<w.heap.size:=λi D F=>(hH.pW i D F).2;obtain⟨H1,d⟩:=hH.named (aF1:=⟨g,n,3⟩) H0 L0 b2 rn.lt W n1 s (agI rn hf.cn hcn rfl G (λj v H=>by have:j%3=0\/j%3=1\/j%3=2:=Z;rcases this with e|e|e<;>(rw [e] at H;simp at H;subst H;exact .ik _ _)));have f2:∀i D,ext1 ρ h.nx ⟨g,n,3⟩ i=some D->D.b<w.heap.size\/D.b=g:=λi D F=>by unfold ext1 at F;grind
 obtain⟨H2,L2⟩:=hH.named (aF1:=⟨a,l,3⟩) H1 d b3 p.lt W q g2 (agI p hf.cl zy rfl G (λj v H=>by
  have:j%3=0\/j%3=1\/j%3=2:=Z;rcases this with e|e|e
  .rw [e] at H;simp at H;subst H;unfold kI;rw[aj Z];exact .ik _ _
  .rw [e] at H;simp at H;subst H;unfold kI;rw[aj Z];exact .ik _ _
  .rw [e] at H;simp at H;subst H;unfold kI;rw[ao e];exact .num 0 G))
 have f3:∀i D,ext1 (ext1 ρ h.nx ⟨g,n,3⟩) A.nx ⟨a,l,3⟩ i=some D->D.b<w.heap.size\/D.b=g\/D.b=a:=λi D F=>by unfold ext1 at F;grind
 obtain⟨H3,L3⟩:=hH.named (aF1:=⟨c,1,2⟩) (o:=.row r 2 0 true [.au] c2) H2 L2 b1 rc.lt W n3 g3 (by
  show fL P _ _ _ w'.heap[c]?;rw[show w'.heap[c]? =_ from rc];refine⟨_,(0,0),rfl,λ_=>rfl,λ_=>hf.cc,bP _,λ_=>rfl,Z,λj z=>?_⟩;have z:j=0\/j=1:=Z;have e1:ext1 (ext1 (ext1 ρ h.nx ⟨g,n,3⟩) A.nx ⟨a,l,3⟩) N.nx ⟨c,1,2⟩ h.nx=some ⟨g,n,3⟩:=by unfold ext1;rw[aj Z,aj Z,ao rfl]
  have e2:ext1 (ext1 (ext1 ρ h.nx ⟨g,n,3⟩) A.nx ⟨a,l,3⟩) N.nx ⟨c,1,2⟩ A.nx=some ⟨a,l,3⟩:=by unfold ext1;rw[aj Z,ao rfl]
  rcases z with rfl|rfl
  .refine .inr ⟨.sl h.nx 0 n (.known n),.slice (some ⟨g,0,none⟩) n n,jN W J1,rfl,rfl,?_⟩;exact .sl _ _ _ _ _ ⟨g,n,3⟩ e1 rfl (bP _)
  .refine .inr ⟨.sl A.nx 0 l (.known l),.slice (some ⟨a,0,none⟩) l l,jN W J1,rfl,rfl,?_⟩;exact .sl _ _ _ _ _ ⟨a,l,3⟩ e2 rfl (bP _))
 exact⟨_,rfl,.ptr N.nx 0,M,_,S,.ptr _ _ ⟨c,1,2⟩ (by unfold ext1;grind),H3,L3⟩
def ane:cN Go.Proofs.Tryz.prog C (.mB 373 378 380) 115:=by refine HS ⟨Go.Proofs.enters_of Go.Proofs.Tryz.func115 G rfl,G,G,G,λl n w A N=>?_⟩;refine(DS l n w A N).mono ?_;rintro e b ⟨c,g,a,rfl,o,s,H,d,r⟩;exact⟨c,g,a,rfl,⟨o.rc,o.rn,o.rl,o.h1,o.h2,o.h3⟩,s,H,d,r⟩
end
end Go.Ev
namespace Go.Ev
open Go Go.Ev Go.Proofs
open Tryz
variable{h h':Heap}{ρ:Ren}{w':World}{args:ay}{k:cR}
def UF{C:Ctx}(i:Nat)(e:Ext)(h:exts i=some e):cN Tryz.prog C e i:=by
 unfold exts at h;split at h<;>cases h
 .exact ane
 .exact ana
 .exact anb
 .exact an9
 .exact an6
 .exact an8
 .exact an7
 .exact an5
 .exact an3
 .exact an2
 .exact an1
 .exact an0
 .exact amZ
 .exact amY
 .exact an4
 .exact x46
noncomputable abbrev C1:Ctx:=kP Tryz.prog exts glk drT
noncomputable abbrev C2:Ctx:=kP Tryz.prog rN glk drT
def agR:iw Tryz.prog C1:=TA KS KM CG UF
def rI(w:World):Prop:=∀g H,glk g=some H->∃m t f,w.heap[g]? =some (.cells m t f)/\∀(j:Nat) v,H[j]? =some v->∃x,m[j]? =some x/\aW (λ_=>none) v x
def En:∀(n x j:Nat) v,(xO n x)[j]? =some v->∃k m,v= .ik k m
 |0,x,j,v,h=>G
 |n+1,x,0,v,h=>by simp[xO] at h;grind
 |n+1,x,j+1,v,h=>by simp only[xO,Oq] at h;exact En n _ j v h
def a8J{C:Ctx}{w:World}(p:C.gl=glk)(y:aO Tryz.prog C ρ h w):rI w:=by
 intro g b c;obtain⟨_,d,t,f,A,N⟩:=y.iP g b Zy;refine⟨d,t,f,A,λj v H=>?_⟩;obtain⟨x,M,u⟩:=N j v H;have a:∃k m,v= .ik k m:=by
  unfold glk at c;split at c
  .cases c;exact En _ _ j v H
  .trivial
 obtain⟨k,m,rfl⟩:=a;exact⟨x,M,by cases u;exact .ik _ _⟩
def YL{C:Ctx}{w:World}(p:C.gl=glk)(h:rI w):aO Tryz.prog C (λ_=>none) yY w:=
 ⟨λi j F=>G,λi j F=>G,W,λg H c=>⟨W,h g H (by rw[←p];trivial)⟩⟩
structure Still(w w':World):Prop where
 size:w.heap.size<=w'.heap.size
 block:∀b,b<w.heap.size->w'.heap[b]? =w.heap[b]?
 aside:Aside w w'
def a1J{q:Ren}{w:World}(n:Le (λ_=>none) yY w q h' w'):Still w w':=
 ⟨n.size,λb s=>(n.frame b s (by rintro⟨i,j,F,_⟩;trivial)).1,n.aside⟩
def Still.rel{C:Ctx}{w:World}(s:Still w w')(r:aO Tryz.prog C ρ h w):aO Tryz.prog C ρ h w'/\Le ρ h w ρ h w':=by
 refine⟨⟨λi D F=>⟨(r.pW i D F).1,bW (r.pW i D F).2 s.size⟩,λi D F=>by rw[s.block _ (r.pW i D F).2];exact r.obj i D F,r.inj,λg H c=>?_⟩,
  λ_ _ h=>h,s.size,λb a R=>⟨s.block b a,R⟩,Z,λ_ _ h=>G,s.aside⟩
 obtain⟨A,m,t,f,N,M⟩:=r.iP g H c;have d:g<w.heap.size:=by
  rcases dN g w.heap.size with h|h
  .exact h
  .grind
 exact⟨A,m,t,f,by rw[s.block g d];trivial,M⟩
def Ch{V:V}{v:Value}(h:isTrue V=true)(H:aW ρ V v):v= .bool true:=by
 unfold isTrue at h;split at h
 .subst h;cases H;rfl
 trivial
def a2d{p:Program}{ext:Nat->Option Ext}{x:Nat->Option ay}{m:Drs}{n f:Nat}(h:iT p ext x m n f args k=true):∃n,(rtN (kP p ext x m) n).call f args yY k=true:=
 ⟨n,vN (g:=λC=>(rtN C n).call f args yY k) h⟩
def VL(n:Nat)(S:(rtN C1 n).call 7 [] yY (λv _=>isTrue v)=true)(w:World)(p:rI w):Calls Tryz.prog 7 #[] w λe w'=>e= .returned (.bool true)/\Still w w':=by refine(callsIn_wide (n:=0)).1 (((a2e agR n).call 7 [] yY _ (λ_=>none) #[] w S .nil (YL rfl p)).mono ?_);rintro e w' ⟨v,rfl,V,R,q,E,H,b,a⟩;exact⟨by rw[Ch E H],a1J a⟩
def VK:∃n,(rtN (kP Tryz.prog exts glk drT) n).call 7 [] yY (λv _=>isTrue v)=true:=a2d Oy
def IW(w:World)(p:rI w):Calls Tryz.prog 7 #[] w λe w'=>e= .returned (.bool true)/\Still w w':=by obtain⟨n,g⟩:=VK;exact VL n g w p
def x7:cN Tryz.prog C2 .holds 7:=by intro args h k c m w S d y;obtain⟨rfl,E⟩:=a5I d S;refine .inr ⟨Go.Proofs.enters_of func7 E7 rfl _ _,(callsIn_wide (n:=0)).2 ((IW w (a8J rfl y)).mono ?_)⟩;rintro e l ⟨rfl,M⟩;obtain⟨b,a⟩:=M.rel y;exact⟨_,rfl,.bool true,h,c,E,.bool true,b,a⟩
def a4M(i:Nat)(e:Ext)(h:rN i=some e):cN Tryz.prog C2 e i:=by
 unfold rN at h;split at h
 .cases h;exact x7
 .exact UF _ _ h
def agQ:iw Tryz.prog C2:=TA KS KM CG a4M
end Go.Ev
namespace Go.Ev
open Go Go.Ev Go.Proofs
open Go.ChangeShapes Go.WideShapes Go.ChangeAt Go.RowKit Go.Deep
variable{base:Nat}{w':World}
def a7q:dC:=[1,10,100,1000,10000,100000,1000000,10000000,100000000,1000000000,10000000000,100000000000,1000000000000,10000000000000,100000000000000,1000000000000000,10000000000000000,100000000000000000,1000000000000000000,10000000000000000000]
def a7p:xO 20 1=a7q.map (V.ik .u64):=by rfl
def LU{r : World}(a : Tryz.prog.globalNamed "internal/strconv.uint64pow10" = some 4)(h : Lib.TabIs Tryz.prog r "internal/strconv.uint64pow10" .u64 a7q) : rI r := by
 intro g e c;unfold glk at c;split at c
 .cases c;have F:∀i,i<20->r.cell? ⟨4,i,none⟩=some (.int .u64 (a7q.getD i 0)):=λi k=>h.cell a i G;have b:=F 0 Z;cases s:r.heap[4]? with
  |none=>simp[World.cell?,s] at b
  |some E=>
   cases E with
   |cells m t f=>
    refine⟨m,t,f,rfl,λj v H=>?_⟩;rw[a7p,rX,Oc] at H;obtain⟨z,C,rfl⟩:=H;have d:j<20:=by
     rcases dN j 20 with h|h
     .exact h
     .rw [a1k G] at C;trivial
    have A:=F j d;rw[cell_of s] at A;refine⟨_,A,?_⟩;rw[xx,C];exact .ik _ _
   |_=>simp[World.cell?,s] at b
 trivial
section
variable {H:Type} {enc:TypeId×Value->H} {P:Program}
def Still.same{r:World}(h:Still r w'){p:MemPlace}(g:p.block<r.heap.size):r.sameAt w' p:=by
 cases p with
 |cell b o=>exact World.cell?_of_block (w:=r) (h.block b g)
 |map b=>exact h.block b g
def Still.frame{r:World}(h:Still r w')(a:MemPlace->Prop):r.keptBut w' a:=by refine⟨h.aside.1,h.aside.2,λi F=>?_⟩;rw[h.block i F];grind
def u6(hl:laidOutB P=true){r k:World}(e:Still r k):
  ∀(F:List TypeId),(∀t∈F,P.readableRec t=true/\t<P.types.size)->∀(s:List Value) (ds:List (DataW H)) (ps:List MemPlace),
   DataW.TrodAll enc P r 0 (λ_=>true) true F s ds ps->
   DataW.TrodAll enc P k 0 (λb=>decide (b<r.heap.size)) true F s ds ps
 |[],_,s,ds,ps,h=>by obtain⟨rfl,rfl,rfl⟩:=trodAll_nil h;trivial
 |t::F,f,s,ds,ps,h=>by
  obtain⟨v,c,d,n,p,q,rfl,rfl,rfl,a,A⟩:=trodAll_cons h;have g:∀x∈p,x.block<r.heap.size:=by obtain⟨m,R⟩:=a;exact DataW.trod_lt m _ _ _ R
  exact trodAll_cons_mk (WideElems.Trod_stays hl W (f t J1).2 a (λx S=>e.same W) (λx S=>W))
   (u6 hl e F W c n q A)
def ua{r:World}{a:bs}{hd:Bool}:∀(F:List TypeId) (s:List Value) (ds:List (DataW H)) (ps:List MemPlace),
  DataW.TrodAll enc P r base a hd F s ds ps->ds.length=F.length
 |[],s,ds,ps,h=>by obtain⟨_,rfl,_⟩:=trodAll_nil h;rfl
 |t::F,s,ds,ps,h=>by obtain⟨v,c,d,n,p,q,rfl,rfl,rfl,b,A⟩:=trodAll_cons h;simp[ua F c n q A]
def aa6{C:Checked}{os:Os}{f:FuncId}{fn:Func}{s:ChangeSpec}{F:Stop.Interp}{laid:List (String×DataW Unit)}(l:TypeId)(n:Nat)
  (own:ownKnob C.prog.godebug=none) (R:os.Started) (S:C.prog.inits.idxOf? f=none) (c:C.prog.funcs[f]? =some fn)
  (witness:∃(w:World) (d:Tape) (i:Input),w.os=os/\(w.forCall d i).Shaped C.prog/\i.vars= []/\Input.okWide C.prog (w.forCall d i) .any w.heap.size f i/\
   (OpenSpec.ofChange s).preRow enc C.prog fn [] false laid (w.forCall d i).memory i.args/\({}:Assume).holds C.prog (lone (Frame.enter C.prog f i.args .normal) [] (w.forCall d i)))
  (M:s.vars= []) (hn:fn.params.size=n)
  (apS:∀ds:List (DataW H),ds.length=n->(s.fn H ds).results= [.lit (.bool true)]/\(s.fn H ds).args=ds/\(s.fn H ds).vars= [])
  (ap7:fn.resultTypes= #[l]) (hb:C.prog.underlying l=some .bool)
  (hl:laidOutB C.prog=true) (g:fn.params.toList.all (λt=>C.prog.readableRec t&&decide (t<C.prog.types.size))=true)
  (walk:∀(r:World) (args:Array Value) (ds:List (DataW H)) (ps:List MemPlace) (base:Nat),
   (∀(j:Nat) t v,fn.params[j]? =some t->args[j]? =some v->Value.okWide C.prog r .any base t v)->
   DataW.TrodAll enc C.prog r 0 (λ_=>true) true fn.params.toList args.toList ds ps->laidMetH C.prog laid r->
   Calls C.prog f args r λe k=>e= .returned (.bool true)/\Still r k):
  ReturnsInHanded {} C os f .any ((OpenSpec.ofChange s).preRow enc C.prog fn [] false laid) (((OpenSpec.ofChange s).at F).post enc C.prog fn false true false false):=by
 refine returnsInHanded_of_row (s:=OpenSpec.ofChange s) own R S c witness ?_;intro r base args ds y a m hW _ _ _ hL _ _;show Calls C.prog f args r λe k=>∃v,e= .returned v/\s.post enc C.prog fn false true false false r args v k;have z:DataW.Whole enc C.prog fn.params.toList s.vars false r args.toList ds y a:=hW;have hW':=z;obtain⟨p,q,N,E,rfl,hfz,x⟩:=z;rw[M] at E;obtain⟨rfl,rfl⟩:=trodVars_none E;have P:ds.length=n:=by rw[ua _ _ _ _ N,←hn];simp
 have tV:∀t∈fn.params.toList,C.prog.readableRec t=true/\t<C.prog.types.size:=by
  intro t o;have:=uK.1 g t o
  simpa using this
 obtain⟨u,b,A⟩:=apS (ds++ []) W;refine(walk r args ds p base m N hL).mono λe k ⟨he,L⟩=>?_;subst he;refine⟨_,rfl,ds,[],p++ [],[],p,[],hW',?_,?_,?_,L.frame _,λh=>Q8⟩
 .rw [u,ap7];exact trodAll_mk1 (shut_bool hb _)
 .rw [b,j9];exact u6 hl L _ tV _ _ _ N
 .rw [M,A];rfl
end
end Go.Ev
namespace Go.Ev.Sy
open Go Go.Ev Go.Proofs
noncomputable section
variable{cap i j m:Nat}{ρ:Ren}{own:aG}{f:av}
def vOf:Value->V
 |.int .i64 n=>Q n
 |.string b=>.str (bytesOf b)
 |_=>.undef
def Cd(ρ)(n:Int):aW ρ (Q n) (.int .i64 n):=by
 unfold Q;split
 .rename_i h;have:=aW.num (ρ:=ρ) n.toNat N3;grind
 .exact .ik _ _
def a6I(ρ)(x:Value):aW ρ (vOf x) x:=by
 unfold vOf;split
 .exact Cd ρ _
 .exact .str _
 .exact .undef _
def a6J(x:Value)(h:vOf x≠ .undef):(vOf x).de=true:=by
 cases x with
 |int k n=>cases k<;>first|exact LD _|trivial
 |string b=>rfl
 |_=>trivial
def xL(cs:Array Value):dA:=λj=>vOf (cs.getD j (.bool false))
def a9t{P:Program}{w:World}{b e:Nat}{cs:Array Value}{fr:Nat×Nat}(h:w.heap[b]? =some (.cells cs e fr))(aF1:pE):fL P ρ (.row e cs.size (cs.size+1) false [] (.cf (xL cs))) aF1 w.heap[b]? :=by
 rw[h];refine⟨cs,fr,rfl,Z,Z,Z,Z,Z,λj z=>?_⟩;by_cases L:xL cs j= .undef
 .refine .inl ?_;show(match xL cs j with | .undef=>([]:ay)[j%0]? | v=>some v)=none;grind
 .refine .inr ⟨xL cs j,cs[j],?_,mL z,a6J _ L,?_⟩
  .show (match xL cs j with | .undef=>([]:ay)[j%0]? | v=>some v)=_;grind
  .have:xL cs j=vOf cs[j]:=by unfold xL;rw[iL,mL z];rfl
   rw[this];exact a6I _ _
def intOf:Value->Int
 |.int _ n=>n
 |_=>0
def strOf:Value->aI
 |.string b=>bytesOf b
 |_=>[]
def Np(j:Nat)(v:Value):Prop:=if j=4 then ∃s,v= .string s/\s.size<=9223372036854775807 else ∃n:Int,v= .int .i64 n/\n<=9223372036854775807
def opAt(cs:Array Value)(p:Nat):Dh:=⟨intOf (cs.getD p (.bool false)),intOf (cs.getD (p+1) (.bool false)),intOf (cs.getD (p+2) (.bool false)),intOf (cs.getD (p+3) (.bool false)),strOf (cs.getD (p+4) (.bool false)),intOf (cs.getD (p+5) (.bool false))⟩
def sr(cs:Array Value)(off n:Nat):List Dh:=(List.range n).map λi=>opAt cs (off+i*6)
def jG(cs:Array Value)(off n:Nat):(sr cs off n).length=n:=by unfold sr;grind
section
variable {cs:Array Value} {off n:Nat} (hc:∀i,i<n->∀j,j<6->∃v,cs[off+i*6+j]? =some v/\Np j v)
include hc
def Et(F:i<n)(z:j<6):xL cs (off+i*6+j)=bI (a2S (sr cs off n)) (i*6+j)/\xL cs (off+i*6+j)≠ .undef:=by
 have c:i<(sr cs off n).length:=by rw[jG];exact F
 rw[w9 _ c z];have e:(sr cs off n)[i]=opAt cs (off+i*6):=by simp only[sr,rW,List.getElem_range]
 rw[e];obtain⟨v,H,N⟩:=hc i F j z;have b:∀d,cs.getD (off+i*6+j) d=v:=λd=>by rw[iL,H];rfl
 have A:xL cs (off+i*6+j)=vOf v:=by unfold xL;rw[b]
 rw[A];unfold Np at N;have a:j=0\/j=1\/j=2\/j=3\/j=4\/j=5:=Z;rcases a with rfl|rfl|rfl|rfl|rfl|rfl
 all_goals first
  |rw [aj I] at N
   obtain⟨x,rfl,_⟩:=N;refine⟨?_,iW x⟩;show Q x=Q (intOf _)
   first|rw[b];rfl|(rw [show cs.getD (off+i*6) (.bool false)= .int .i64 x from b _];rfl)
  |rw [ao rfl] at N
   obtain⟨x,rfl,_⟩:=N;refine⟨?_,λh=>G⟩;show V.str (bytesOf x)= .str (strOf _);rw[b];rfl
def a7B:∀o∈sr cs off n,OpR o:=by
 intro o L;unfold sr at L;obtain⟨i,F,rfl⟩:=fA.1 L;have F:=NY.1 F;have g:∀j,j<6->∃v,(∀d,cs.getD (off+i*6+j) d=v)/\Np j v:=λj z=>by obtain⟨v,k,N⟩:=hc i F j z;exact⟨v,λd=>by rw[iL,k];rfl,N⟩
 unfold opAt OpR;obtain⟨v1,t,P⟩:=g 1 I;obtain⟨A,f,p⟩:=g 3 I;obtain⟨v4,M,c⟩:=g 4 I;unfold Np at P p c;rw[aj I] at P p;rw[ao rfl] at c;obtain⟨e,rfl,H⟩:=P;obtain⟨S,rfl,r⟩:=p;obtain⟨h,rfl,a⟩:=c;rw[t,f,M];refine⟨H,r,λb s=>?_,?_⟩
 .unfold strOf bytesOf at s;obtain⟨u,_,rfl⟩:=fA.1 s;exact u.toNat_lt
 .show (bytesOf h).length<=_;unfold bytesOf;rw[dT,xw];trivial
end
def a5X(r:World)(a:Option Addr)(len cap:Nat):Prop:=len<=9223372036854775807/\(len=0/\(a=none/\cap=0\/∃c,a=some c)\/∃b off cs e f,a=some ⟨b,off,none⟩/\r.heap[b]? =some (.cells cs e f)/\len<=cap/\off+len*6<=cs.size/\∀i,i<len->∀j,j<6->∃v,cs[off+i*6+j]? =some v/\Np j v)
def a8V:tY own f m .z8 []:=⟨⟨λ_=>rfl,λ_ _=>rfl,λ_=>rfl,λ_=>rfl⟩,λ_=>rfl,λh=>G⟩
def a5G{a:Option Addr}{len:Nat}{r:World}(p:rI r)(P:a5X r a len cap):∃(ρ:Ren) (f:av) (m:Nat) (v:V) (os:List Dh),aO Tryz.prog C2 ρ (.fn f m) r/\aW ρ v (.slice a len cap)/\tY (λ_=>0) f m v os/\(∀o∈os,OpR o)/\os.length<=9223372036854775807/\∀b,¬SN ρ (.fn f m) b:=by
 obtain⟨E,⟨rfl,P⟩|⟨b,off,cs,e,C,rfl,s,n,L,hc⟩⟩:=P
 .refine ⟨λ_=>none,λ_=>.none,0,if a=none then .au else .z8,[],⟨λi u F=>G,λi u F=>G,W,λg d c=>⟨W,p g d c⟩⟩,?_,?_,λo L=>G,G,λb=>by rintro⟨i,u,F,_⟩;trivial⟩
  .rcases P with⟨rfl,rfl⟩|⟨R,rfl⟩
   .rw [ao rfl];exact .au
   .rw [aj (λh=>Q8)];exact .z8 _ _
  .by_cases h:a=none
   .rw [ao h];exact tY.nil
   .rw [aj h];exact a8V
 .have l:b<r.heap.size:=by
   rcases dN b r.heap.size with h|h
   .exact h
   .grind
  refine⟨λi=>if i=0 then some ⟨b,0,0⟩ else none,λ_=>.row e cs.size (cs.size+1) false [] (.cf (xL cs)),1,.sl 0 off len (.known cap),sr cs off len,⟨λi u F=>?_,λi u F=>?_,λi j u D F w _ _ _=>?_,λg d c=>⟨λi u F _ y=>?_,let ⟨M,t,C,A,N⟩:=p g d c;⟨M,t,C,A,λj v H=>let ⟨x,a,b⟩:=N j v H;⟨x,a,b.mono (λi u h=>Q8)⟩⟩⟩⟩,.sl 0 off len cap _ ⟨b,0,0⟩ G rfl n,⟨⟨λ_=>rfl,λ_ _=>rfl,λ_=>rfl,λ_=>rfl⟩,λq=>?_,λ_=>⟨e,?_,λ_ _ _ _ _=>rfl⟩⟩,a7B hc,by rw[jG];trivial,λk=>?_⟩
  .by_cases h:i=0
   .rw [ao h] at F;cases F;exact⟨by rw[h];exact Nat.one_pos,l⟩
   grind
  .by_cases h:i=0
   .rw [ao h] at F;cases F;exact a9t s _
   grind
  .grind
  .have h:Nat.ble (cs.size+1) cs.size=true:=y;exact absurd (bh h) Z
  .rw [PN,gP E,jG]
  .refine .inr ⟨0,off,.known cap,cs.size,cs.size+1,false,[],xL cs,by rw[jG],Nat.one_pos,rfl,?_,by rw[jG];trivial,λj w=>?_,λv H=>?_⟩
   .rw [jG];exact(sH (cs:=Dh.cs) (z:=6) (λ_=>rfl) (sr cs off len)).trans (by rw[jG])
   .rw [jG] at w;have:=Et hc (i:=j/6) (j:=j%6) Z Z;grind
   .obtain ⟨j,w,rfl⟩:=jm H;have S:j<len*6:=by have:=sH (cs:=Dh.cs) (z:=6) (λ_=>rfl) (sr cs off len);rw[jG] at this;unfold a2S at w;omega
    have:=Et hc (i:=j/6) (j:=j%6) Z Z;rw[show off+j/6*6+j%6=off+j by omega,show j/6*6+j%6=j by omega] at this;rw[←dH w,←this.1];grind
  .rintro ⟨i,u,_,_,_,y⟩;have h:Nat.ble (cs.size+1) cs.size=true:=y;exact absurd (bh h) Z
def Ww(ρ)(c z q l:Int):aW ρ (.agg [Q c,Q z,Q q,Q l]) (.agg #[.int .i64 c,.int .i64 z,.int .i64 q,.int .i64 l]):=by
 refine .agg _ _ rfl (λv H=>?_) (λi u v L H=>?_)
 .simp only[fY,lG,or_false] at H;rcases H with rfl|rfl|rfl|rfl<;>exact LD _
 .match i with
  |0=>cases L;cases H;exact Cd _ _
  |1=>cases L;cases H;exact Cd _ _
  |2=>cases L;cases H;exact Cd _ _
  |3=>cases L;cases H;exact Cd _ _
  |i+4=>trivial
def uE{R:Rt}(h:∃n,R=rtN C2 n):∃n,R.Y=rtN C2 n:=by obtain⟨n,rfl⟩:=h;exact⟨n+1,rfl⟩
def u22:∃n,(rtN C2 0).Y.Y.Y.Y.Y.Y.Y.Y.Y.Y.Y.Y.Y.Y.Y.Y.Y.Y.Y.Y.Y.Y=rtN C2 n:=by
 iterate 22 refine uE ?_
 grind
def LA(c z q l:Int)(a:Option Addr)(len cap:Nat)(o)(p:rI o)(P:a5X o a len cap):
  Calls Tryz.prog 5 #[.agg #[.int .i64 c,.int .i64 z,.int .i64 q,.int .i64 l],.slice a len cap] o λe A=>e= .returned (.bool true)/\Still o A:=by
 obtain⟨k,f,m,v,os,y,H,hO,L,t,hM⟩:=a5G p P;obtain⟨n,g⟩:=u22;have h:=VS (R:=rtN C2 0) (own:=λ_=>0) Z hO L t c z q l;rw[g] at h;have S:=h (λv _=>isTrue v) true (λr F m' d=>by rw[d];rfl);have d:cG k [.agg [Q c,Q z,Q q,Q l],v] (#[.agg #[.int .i64 c,.int .i64 z,.int .i64 q,.int .i64 l],.slice a len cap]:Array Value).toList:=by
  refine⟨rfl,λi u x C S=>?_⟩
  match i with
  |0=>cases C;cases S;exact Ww k c z q l
  |1=>grind
  |i+2=>trivial
 refine(callsIn_wide (n:=0)).1 (((a2e agQ n).call _ _ _ _ k _ o S d y).mono ?_);rintro e w' ⟨N,rfl,V,M,jP,E,j,kO,w⟩;exact⟨by rw[Ch E j],w.size,λb s=>(w.frame b s W).1,w.aside⟩
end
end Go.Ev.Sy
namespace Go.Ev.Sy
open Go Go.Ev Go.Proofs
open Go.ChangeShapes Go.WideShapes Go.ChangeAt Go.RowKit Go.Deep
variable{S base:Nat}
section
variable {H:Type} {enc:TypeId×Value->H} {P:Program} {w:World}
def lD{H:Type}(enc:TypeId×Value->H)(P:Program)(w:World)(aEV:Nat->Value->Prop)(e S:Nat):Prop:=
 ∀g a x,DataW.trod enc P w 0 (λ_=>true) true g e a=some x->a.length=S/\∀j,j<S->∃v,a[j]? =some v/\aEV j v
def lD.int{aEV:Nat->Value->Prop}{e:Nat}(b:P.underlying e=some (.int .i64))(c:∀n:Int,n<=9223372036854775807->aEV 0 (.int .i64 n)):lD enc P w aEV e 1:=by intro g H x h;obtain⟨n,rfl,_,l⟩:=DataW.trod_int b h;refine⟨rfl,λj z=>?_⟩;obtain rfl:j=0:=Z;exact⟨_,rfl,c _ (bounds_i64 l).2⟩
def lD.str{aEV:Nat->Value->Prop}{e:Nat}(b:P.underlying e=some .string)(c:∀s:ByteArray,s.size<=9223372036854775807->aEV 0 (.string s)):lD enc P w aEV e 1:=by intro g H x h;obtain⟨s,rfl,_,l⟩:=DataW.trod_string b h;refine⟨rfl,λj z=>?_⟩;obtain rfl:j=0:=Z;exact⟨_,rfl,c _ G⟩
def lD.struct{aEV:Nat->Value->Prop}{e:Nat}{l:Array Field}(b:P.underlying e=some (.struct l))(hc:P.cellsOf e=S)
  (hf:∀j,j<S->∃(i:Nat) (f:Field),l[i]? =some f/\f.offset<=j/\j<f.offset+P.cellsOf f.type/\lD enc P w (λk v=>aEV (f.offset+k) v) f.type (P.cellsOf f.type)):lD enc P w aEV e S:=by
 intro g H x h;obtain⟨d,m,_,_,q,t,p⟩:=DataW.trod_struct b h;refine⟨Z,λj z=>?_⟩;obtain⟨i,f,a,A,N,n⟩:=hf j z;have c:i<l.size:=(Array.getElem?_eq_some_iff.1 a).1;have M:=p i f a;have o:d[i]? =some (d[i]' Z):=bT Z;rw[o] at M;obtain⟨_,u⟩:=n _ _ _ M;obtain⟨v,r,s⟩:=u (j-f.offset) Z;grind
end
section
variable {H:Type} (enc:TypeId×Value->H) (w:World)
def a7C:lD enc Tryz.prog w Np 60 5:=by
 have c:Tryz.prog.cellsOf 3=1:=E7;have b:Tryz.prog.cellsOf 9=1:=E7;have F:∀t:Nat->Value->Prop,(∀n:Int,n<=9223372036854775807->t 0 (.int .i64 n))->lD enc Tryz.prog w t 3 (Tryz.prog.cellsOf 3):=λt h=>by rw[c];exact lD.int Tryz.underlying3 h
 have M:∀t:Nat->Value->Prop,(∀s:ByteArray,s.size<=9223372036854775807->t 0 (.string s))->lD enc Tryz.prog w t 9 (Tryz.prog.cellsOf 9):=λt h=>by rw[b];exact lD.str Tryz.underlying9 h
 have q:∀j,j≠4->∀n:Int,n<=9223372036854775807->Np j (.int .i64 n):=λj z n g=>by unfold Np;grind
 refine lD.struct (S:=5) Tryz.underlying60 G (λj z=>?_);have a:j=0\/j=1\/j=2\/j=3\/j=4:=Z;rcases a with rfl|rfl|rfl|rfl|rfl
 .exact ⟨0,_,rfl,G,G,W⟩
 .exact ⟨1,_,rfl,G,G,W⟩
 .exact ⟨2,_,rfl,G,G,W⟩
 .exact ⟨3,_,rfl,G,G,F _ (q 3 I)⟩
 .exact ⟨4,_,rfl,G,G,M _ (λs h=>by show Np 4 _;unfold Np;grind)⟩
def abP:lD enc Tryz.prog w Np 62 6:=by
 have c:Tryz.prog.cellsOf 3=1:=E7;have b:Tryz.prog.cellsOf 60=5:=E7;refine lD.struct (S:=6) Tryz.underlying62 G (λj z=>?_);by_cases h:j<5
 .refine ⟨0,_,rfl,kU _,G,?_⟩;show lD enc Tryz.prog w (λk v=>Np (0+k) v) 60 (Tryz.prog.cellsOf 60);simp only[dz];rw[b];exact a7C enc w
 .obtain rfl:j=5:=by omega
  refine⟨1,_,rfl,G,G,?_⟩;show lD enc Tryz.prog w (λk v=>Np (5+k) v) 3 (Tryz.prog.cellsOf 3);rw[c];exact lD.int Tryz.underlying3 (λn g=>by show Np 5 _;unfold Np;grind)
end
def Sg{w:World}{b o:Nat}{v:Value}(h:w.cell? ⟨b,o,none⟩=some v):∃cs e fr,w.heap[b]? =some (.cells cs e fr)/\cs[o]? =some v:=by
 cases s:w.heap[b]? with
 |none=>simp[World.cell?,s] at h
 |some E=>
  cases E with
  |cells m t fr=>exact⟨m,t,fr,rfl,by rw[←h,cell_of s]⟩
  |_=>simp[World.cell?,s] at h
def a2R{H:Type}{enc:TypeId×Value->H}{w:World}{v:Value}{d:DataW H}{ps:List MemPlace}
  (hv:Value.okWide Tryz.prog w .any base 24 v) (h:DataW.Trod enc Tryz.prog w 0 (λ_=>true) true 24 v d ps):∃a len cap,v= .slice a len cap/\a5X w a len cap:=by
 have o:=Tryz.underlying24;obtain⟨a,len,cap,rfl⟩:=okWide_slice o hv;refine⟨a,len,cap,rfl,?_⟩;have P:Tryz.prog.cellsOf 62=6:=E7;obtain⟨g,hf⟩:=h;rcases open_slice o hf with⟨r,_⟩|⟨x,l,c,m,n,D,Pl,r,hb,t,R,hmm,S,hi⟩
 .simp [Value.cells] at r;obtain⟨rfl,rfl,rfl⟩:=r;exact⟨Z,.inl ⟨rfl,.inl ⟨rfl,rfl⟩⟩⟩
 .simp [Value.cells] at r;obtain⟨rfl,rfl,rfl⟩:=r;simp only[if_true] at hmm;subst hmm;have q:len<=9223372036854775807:=by unfold maxLen at R;omega
  by_cases s:len=0
  .exact ⟨q,.inl ⟨s,.inr ⟨x,rfl⟩⟩⟩
  have y:x.spot=none:=by unfold Value.okWide at hv;rw[o] at hv;simp only at hv;unfold Cell.okWide at hv;rw[o] at hv;simp only at hv;unfold Cell.ok at hv;rw[o] at hv;simp only at hv;exact hv.2.2.2.1
  obtain⟨b,off,spot⟩:=x;simp only at y;subst y;have key:∀i j,i<m->j<6->∃v,w.cell? ⟨b,off+i*6+j,none⟩=some v/\Np j v:=by intro i j M z;obtain⟨lT,F,p⟩:=hi i M;rw[P] at F;obtain⟨hlen,hfj⟩:=abP enc w _ _ _ p;obtain⟨v,hv',u⟩:=hfj j z;obtain⟨_,_,L⟩:=World.cells?_some F;have k:=L j z;refine⟨v,?_,u⟩;rw[←hv',←k];congr 1;simp only[Addr.add];split<;>split<;>simp_all [FE]
  obtain⟨v0,hv0,_⟩:=key 0 0 Z Z;obtain⟨cs,e,f,C,_⟩:=Sg hv0;have E:∀i j,i<m->j<6->∃v,cs[off+i*6+j]? =some v/\Np j v:=λi j A N=>by obtain⟨v,hv,hq⟩:=key i j A N;rw[cell_of C] at hv;grind
  refine⟨q,.inr ⟨b,off,cs,e,f,rfl,C,t,?_,λi A j N=>E i j Z N⟩⟩;obtain⟨v,hv,_⟩:=E (len-1) 5 Z Z;grind
def Pp{w:World}{v:Value}(g:Value.okWide Tryz.prog w .any base 23 v):∃c z q l:Int,v= .agg #[.int .i64 c,.int .i64 z,.int .i64 q,.int .i64 l]:=by
 have o:=Tryz.underlying23;have R:∃H,v= .agg H/\H.size=Tryz.prog.cellsOf 23/\Row.okWide Tryz.prog w .any base 23 H:=by simpa [Value.okWide,o] using g
 obtain⟨H,rfl,i,F,m,_,k⟩:=R;rw[show Tryz.prog.cellTypes Tryz.prog.depth 23=some [3,3,3,3] by trivial] at m;obtain rfl:=Option.some.inj m;rw[show Tryz.prog.cellsOf 23=4 by trivial] at i;have h:∀y,Cell.okWide Tryz.prog w .any base 3 y->∃n:Int,y= .int .i64 n:=by intro y p;unfold Cell.okWide at p;rw[Tryz.underlying3] at p;unfold Cell.ok at p;rw[Tryz.underlying3] at p;cases y<;>simp_all [IntKind.has,IntKind.min,IntKind.max,IntKind.signed,IntKind.bits]
 obtain⟨l⟩:=H
 match l,i with
 |[x,y,z,u],_=>obtain⟨r,e,S⟩:=k 0 x rfl;obtain⟨j,a,p⟩:=k 1 y rfl;obtain⟨t,d,C⟩:=k 2 z rfl;obtain⟨b,f,L⟩:=k 3 u rfl;grind
def a6G(H:Type)(enc:TypeId×Value->H)(r)(args:Array Value)(ds:List (DataW H))(ps:List MemPlace)(base:Nat)
  (h:∀(j:Nat) t v,Tryz.f5.params[j]? =some t->args[j]? =some v->Value.okWide Tryz.prog r .any base t v)
  (N:DataW.TrodAll enc Tryz.prog r 0 (λ_=>true) true Tryz.f5.params.toList args.toList ds ps) (p:rI r):
  Calls Tryz.prog 5 args r λe k=>e= .returned (.bool true)/\Still r k:=by
 have m:=h;rw[Tryz.params5] at N m;obtain⟨v0,n,d0,o,g,x,f,rfl,rfl,s,i⟩:=trodAll_cons N;obtain⟨v1,u,d1,b,w,y,rfl,rfl,rfl,A,d⟩:=trodAll_cons i;obtain⟨rfl,rfl,rfl⟩:=trodAll_nil d;obtain rfl:args= #[v0,v1]:=W;obtain⟨c,z,q,l,rfl⟩:=Pp (m 0 23 v0 rfl rfl);obtain⟨a,len,cap,rfl,P⟩:=a2R (m 1 24 v1 rfl rfl) A;exact LA c z q l a len cap r p P
def aaD : Tryz.prog.globalNamed "internal/strconv.uint64pow10" = some 4 := G
def a8I{aEX : World}{a b c : String × DataW Unit}{rest : List (String × DataW Unit)}(h : laidMet Tryz.prog (a :: b :: c :: ("internal/strconv.uint64pow10", Lib.tabData .u64 a7q) :: rest) aEX) : rI aEX :=
 LU aaD (Lib.tabIs_of_head aaD G Tryz.underlying596 G G G h.tail.tail.tail)
end Go.Ev.Sy
