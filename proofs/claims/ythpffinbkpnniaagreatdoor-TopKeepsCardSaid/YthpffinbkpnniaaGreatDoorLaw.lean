/- The law TopKeeps of copyholdtop, its row's statement and its card: for every input the call returns true, and each argument reads behind the call as it read before. The package-level variables as the program's text lays them. -/
import Derived.Test.YthpffinbkpnniaaGreatDoorCards
import Derived.Test.YthpffinbkpnniaaGreatDoorEvTie
import Derived.Test.YthpffinbkpnniaaGreatDoorEvW0
import Derived.Test.YthpffinbkpnniaaGreatDoorEvW1
import Derived.Test.YthpffinbkpnniaaGreatDoorEvW2
import Derived.Test.YthpffinbkpnniaaGreatDoorEvJ10
import Derived.Test.YthpffinbkpnniaaGreatDoorM25
import Derived.Deep.DeepWitnessRowRef
namespace Go.Proofs.YthpffinbkpnniaaGreatDoor.lawTopKeeps
open Go.ChangeShapes Go.WideShapes Go.ChangeAt Go.RowKit Go.Deep Go.Ev Go.Ev.Sy
set_option linter.unusedVariables false
theorem own:ownKnob Tryz.prog.godebug=none:=by kernel_rfl
theorem filt : L8.filter (fun x => x.2.handleName?.isNone) = [("unicode/utf8.first", Rows.laid_unicode_utf8_first), ("unicode/utf8.acceptRanges", Rows.laid_unicode_utf8_acceptRanges), ("strconv.ErrSyntax", Rows.laid_strconv_ErrSyntax), ("strconv.ErrRange", Rows.laid_strconv_ErrRange), ("internal/strconv.uint64pow10", Lib.tabData .u64 a7q), ("math/bits.deBruijn32tab", Rows.laid_math_bits_deBruijn32tab), ("math/bits.deBruijn64tab", Rows.laid_math_bits_deBruijn64tab)] := by kernel_rfl
theorem filtN:L8.filter (fun x=>x.2.handleName?.isNone)=NH:=by kernel_rfl
theorem laid_eq:Rows.topKeepsRow.laid=L8:=rfl
theorem glob{W:World}(hL:laidMetH Tryz.prog Rows.topKeepsRow.laid W):rI W:=by
 have h:=(laidMetH_iff.1 (laid_eq▸hL)).1
 rw[filt] at h
 exact a8I h.tail
theorem laid_data(os:Os):laidMet Tryz.prog NH (laidW os):=by
 have e1:(NH.filter fun x=>(NH.map (·.1)).contains x.1)=NH:=List.filter_eq_self.2 fun x hx=>List.contains_iff_mem.2 (List.mem_map.2 ⟨x,hx,rfl⟩)
 have e2:(NH.filter fun x=>!(NH.map (·.1)).contains x.1)= []:=List.filter_eq_nil_iff.2 fun x hx=>by rw[List.contains_iff_mem.2 (List.mem_map.2 ⟨x,hx,rfl⟩)];simp
 exact laidMet_layVars (w0:=base0 os) (NH.map (·.1)) [] (by rw[e1];rfl) (by rw[e1];exact w5 os) (by rw[e1];exact w6 os) (by rw[e2];exact LaidIn.none)
theorem laid_met(os:Os):laidMetH Tryz.prog Rows.topKeepsRow.laid ((laidW os).forCall (fun _ _=>0) ⟨#[],#[.agg #[.int .i64 0,.int .i64 0,.int .i64 0,.int .i64 0],.slice none 0 0],[]⟩).memory:=by
 have h:laidMetH Tryz.prog L8 (laidW os):=laidMetH_of_parts (filtN▸laid_data os) (w7 os)
 rw[laid_eq]
 exact h.of_heap (by simp[World.memory,World.forCall,Input.heap])
theorem reads(os:Os){H:Type}(enc:TypeId×Value→H):∃places,DataW.whole enc Tryz.prog ((laidW os).forCall (fun _ _=>0) ⟨#[],#[.agg #[.int .i64 0,.int .i64 0,.int .i64 0,.int .i64 0],.slice none 0 0],[]⟩).memory Tryz.f5.params.toList Rows.topKeepsSpec.vars false (#[.agg #[.int .i64 0,.int .i64 0,.int .i64 0,.int .i64 0],.slice none 0 0]:Array Value).toList 8=some ([.agg [.lit (.int .i64 0),.lit (.int .i64 0),.lit (.int .i64 0),.lit (.int .i64 0)],.nil],[],places):=
 ⟨[],by kernel_rfl⟩
set_option maxRecDepth 100000 in
theorem lifted(os:Os)(started:os.Started)(H:Type)(enc:TypeId×Value→H)(F:Stop.Interp):
  ReturnsInHanded {} Tryz.checked os 5 .any ((OpenSpec.ofChange Rows.topKeepsSpec).preRow enc Tryz.prog Tryz.f5 Rows.topKeepsRow.domain false Rows.topKeepsRow.laid) (((OpenSpec.ofChange Rows.topKeepsSpec).at F).post enc Tryz.prog Tryz.f5 false true false false):=by
 obtain⟨places,hx⟩:=reads os enc
 exact aa6 (C:=Tryz.checked) (f:=5) (fn:=Tryz.f5) (s:=Rows.topKeepsSpec) (enc:=enc) 4 2 own started l1 Tryz.func5
  (witness_row_atRef (enc:=enc) (C:=Tryz.checked) false (laidW os) #[.agg #[.int .i64 0,.int .i64 0,.int .i64 0,.int .i64 0],.slice none 0 0] (World.layVars_os _ _ _) (w1 os) (w2 os) (l2 os)
   ⟨⟨OpenSpec.pre_of_parts (DataW.Whole_of_whole hx) (by kernel_rfl) (fun k hk=>by cases hk),laid_met os⟩,sizedMet_of_bare (sizedMet_of_sizedB (fuel:=8) (by kernel_rfl))⟩)
  rfl l5 (fun ds h=>by match ds,h with | [_,_],_=>exact⟨rfl,rfl,rfl⟩)
  l6 Tryz.underlying4 k2 l8 (fun W args ds ps base hv hA hL=>a6G H enc W args ds ps base hv hA (glob hL))
theorem said:Rows.TopKeepsSaid:=
 OpenClaim.holds_of_cond 5 Tryz.f5 rfl rfl rfl rfl rfl rfl rfl ⟨rfl,rfl,rfl,rfl,rfl⟩ rfl rfl rfl rfl rfl m6 Tryz.func5 joined
  (of_decide_eq_true (by kernel_rfl)) (by unfold Func.isWrapper;rw[if_neg (of_decide_eq_false (by kernel_rfl))];exact⟨rfl,rfl⟩)
  (fun os started H enc _ F=>by rw[OpenClaim.pre_eq_preRow];exact lifted os started H enc F)
theorem plain(f : FuncId)(fn : Func)(hf : Tryz.pinned.checked.prog.funcNamed "copyhold/copyholdtop.TopKeeps" = some f)(hfn : Tryz.pinned.checked.prog.funcs[f]? = some fn) :
  true=Tryz.pinned.checked.prog.looks []∧∀(j:Nat) t,fn.params[j]? =some t→Tryz.pinned.checked.prog.wantsStandIn t=false:=by
 obtain rfl:f=5:=Option.some.inj (m6.symm.trans hf) |>.symm
 obtain rfl:fn=Tryz.f5:=(Option.some.inj (Tryz.func5.symm.trans hfn)).symm
 refine⟨m3,fun j t ht=>?_⟩
 have:=List.all_eq_true.1 m4 t (Array.mem_toList_iff.2 (Array.mem_of_getElem? ht))
 show Tryz.prog.wantsStandIn t=false;simpa using this
theorem holds:Rows.TopKeepsCardSaid:=
 Claim7.holds_tied_plain_at .later [] _ _ _ _ said (fun _ h=>by cases h) m1 (fun _ h=>by cases h) row_tie rfl ⟨rfl,rfl⟩ (by kernel_rfl) rfl plain m5
end Go.Proofs.YthpffinbkpnniaaGreatDoor.lawTopKeeps
