/- The law TopWitness of copyholdtop, its row's statement and its card: for every input the call returns true, and each argument reads behind the call as it read before. The package-level variables as the program's text lays them. -/
import Derived.Test.YtjdbkjfiadnjoaaGreatDoorCards
import Derived.Test.YtjdbkjfiadnjoaaGreatDoorEvTie
import Derived.Test.YtjdbkjfiadnjoaaGreatDoorEvW0
import Derived.Test.YtjdbkjfiadnjoaaGreatDoorEvW1
import Derived.Test.YtjdbkjfiadnjoaaGreatDoorEvW2
import Derived.Test.YtjdbkjfiadnjoaaGreatDoorEvJ10
import Derived.Test.YtjdbkjfiadnjoaaGreatDoorEvKAll
import Derived.Deep.DeepWitnessRowRef
namespace Go.Proofs.YtjdbkjfiadnjoaaGreatDoor.lawTopWitness
open Go.ChangeShapes Go.WideShapes Go.ChangeAt Go.RowKit Go.Deep Go.Ev
set_option linter.unusedVariables false

theorem own : ownKnob Tryz.prog.godebug = none := by kernel_rfl
theorem filt : L8.filter (fun x => x.2.handleName?.isNone) = [("unicode/utf8.first", Rows.laid_unicode_utf8_first), ("unicode/utf8.acceptRanges", Rows.laid_unicode_utf8_acceptRanges), ("strconv.ErrSyntax", Rows.laid_strconv_ErrSyntax), ("strconv.ErrRange", Rows.laid_strconv_ErrRange), ("internal/strconv.uint64pow10", Lib.tabData .u64 pows), ("math/bits.deBruijn32tab", Rows.laid_math_bits_deBruijn32tab), ("math/bits.deBruijn64tab", Rows.laid_math_bits_deBruijn64tab)] := by kernel_rfl
theorem filtN : L8.filter (fun x => x.2.handleName?.isNone) = NH := by kernel_rfl
theorem laid_eq : Rows.topWitnessRow.laid = L8 := rfl

theorem glob {W : World} (hL : laidMetH Tryz.prog Rows.topWitnessRow.laid W) : GlobOk W := by
  have h := (laidMetH_iff.1 (laid_eq ▸ hL)).1
  rw [filt] at h
  exact glob_of_laid h.tail

set_option maxRecDepth 100000 in
theorem walked (H : Type) (enc : TypeId × Value → H) (W : World) (args : Array Value) (ds : List (DataW H)) (ps : List MemPlace) (base : Nat)
    (hval0 : ∀ (j : Nat) t v, Tryz.f3.params[j]? = some t → args[j]? = some v → Value.okWide Tryz.prog W .any base t v)
    (hA : DataW.TrodAll enc Tryz.prog W 0 (fun _ => true) true Tryz.f3.params.toList args.toList ds ps) (hL : laidMetH Tryz.prog Rows.topWitnessRow.laid W) :
    Calls Tryz.prog 3 args W fun e W' => e = .returned (.bool true) ∧ Still W W' :=
  walked_top all_kinds H enc W args ds ps base hval0 hA (glob hL)

theorem laid_data (os : Os) : laidMet Tryz.prog NH (laidW os) := by
  have e1 : (NH.filter fun x => (NH.map (·.1)).contains x.1) = NH := List.filter_eq_self.2 fun x hx => List.contains_iff_mem.2 (List.mem_map.2 ⟨x, hx, rfl⟩)
  have e2 : (NH.filter fun x => !(NH.map (·.1)).contains x.1) = [] := List.filter_eq_nil_iff.2 fun x hx => by rw [List.contains_iff_mem.2 (List.mem_map.2 ⟨x, hx, rfl⟩)]; simp
  exact laidMet_layVars (w0 := base0 os) (NH.map (·.1)) [] (by rw [e1]; rfl) (by rw [e1]; exact w5 os) (by rw [e1]; exact w6 os) (by rw [e2]; exact LaidIn.none)
theorem laid_met (os : Os) : laidMetH Tryz.prog Rows.topWitnessRow.laid ((laidW os).forCall (fun _ _ => 0) ⟨#[], #[.int .u8 0, .int .u8 0, .int .u8 0], []⟩).memory := by
  have h : laidMetH Tryz.prog L8 (laidW os) := laidMetH_of_parts (filtN ▸ laid_data os) (w7 os)
  rw [laid_eq]
  exact h.of_heap (by simp [World.memory, World.forCall, Input.heap])
theorem reads (os : Os) {H : Type} (enc : TypeId × Value → H) : ∃ places, DataW.whole enc Tryz.prog ((laidW os).forCall (fun _ _ => 0) ⟨#[], #[.int .u8 0, .int .u8 0, .int .u8 0], []⟩).memory Tryz.f3.params.toList Rows.topWitnessSpec.vars false (#[.int .u8 0, .int .u8 0, .int .u8 0] : Array Value).toList 8 = some ([.lit (.int .u8 0), .lit (.int .u8 0), .lit (.int .u8 0)], [], places) :=
  ⟨[], by kernel_rfl⟩

set_option maxRecDepth 100000 in
theorem lifted (os : Os) (started : os.Started) (H : Type) (enc : TypeId × Value → H) (F : Stop.Interp) :
    ReturnsInHanded {} Tryz.checked os 3 .any ((OpenSpec.ofChange Rows.topWitnessSpec).preRow enc Tryz.prog Tryz.f3 Rows.topWitnessRow.domain false Rows.topWitnessRow.laid) (((OpenSpec.ofChange Rows.topWitnessSpec).at F).post enc Tryz.prog Tryz.f3 false true false false) := by
  obtain ⟨places, hx⟩ := reads os enc
  exact liftedStill (C := Tryz.checked) (f := 3) (fn := Tryz.f3) (s := Rows.topWitnessSpec) (enc := enc) 4 3 own started l1 Tryz.func3
    (witness_row_atRef (enc := enc) (C := Tryz.checked) false (laidW os) #[.int .u8 0, .int .u8 0, .int .u8 0] (World.layVars_os _ _ _) (w1 os) (w2 os) (l2 os)
      ⟨⟨OpenSpec.pre_of_parts (DataW.Whole_of_whole hx) (by kernel_rfl) (fun k hk => by cases hk), laid_met os⟩, sizedMet_of_bare (sizedMet_of_sizedB (fuel := 8) (by kernel_rfl))⟩)
    rfl l5 (fun ds h => by match ds, h with | [_, _, _], _ => exact ⟨rfl, rfl, rfl⟩)
    l6 Tryz.underlying4 k2 l8 (fun W args ds ps base hv hA hL => walked H enc W args ds ps base hv hA hL)

theorem said : Rows.TopWitnessSaid :=
  OpenClaim.holds_of_cond 3 Tryz.f3 rfl rfl rfl rfl rfl rfl rfl ⟨rfl, rfl, rfl, rfl, rfl⟩ rfl rfl rfl rfl rfl m6 Tryz.func3 joined
    (of_decide_eq_true (by kernel_rfl)) (by unfold Func.isWrapper; rw [if_neg (of_decide_eq_false (by kernel_rfl))]; exact ⟨rfl, rfl⟩)
    (fun os started H enc _ F => by rw [OpenClaim.pre_eq_preRow]; exact lifted os started H enc F)

theorem plain (f : FuncId) (fn : Func) (hf : Tryz.pinned.checked.prog.funcNamed "copyhold/copyholdtop.TopWitness" = some f) (hfn : Tryz.pinned.checked.prog.funcs[f]? = some fn) :
    true = Tryz.pinned.checked.prog.looks [] ∧ ∀ (j : Nat) t, fn.params[j]? = some t → Tryz.pinned.checked.prog.wantsStandIn t = false := by
  obtain rfl : f = 3 := Option.some.inj (m6.symm.trans hf) |>.symm
  obtain rfl : fn = Tryz.f3 := (Option.some.inj (Tryz.func3.symm.trans hfn)).symm
  refine ⟨m3, fun j t ht => ?_⟩
  rw [Tryz.params3] at ht
  have ht' : t = 5 := by simpa using Array.mem_of_getElem? ht
  subst ht'
  exact m4

/-- THE CARD. -/
theorem holds : Rows.TopWitnessCardSaid :=
  Claim7.holds_tied_plain_at .later [] _ _ _ _ said (fun _ h => by cases h) m1 (fun _ h => by cases h) topWitness_row_tie rfl ⟨rfl, rfl⟩ (by kernel_rfl) rfl plain m5
#print axioms holds
end Go.Proofs.YtjdbkjfiadnjoaaGreatDoor.lawTopWitness
