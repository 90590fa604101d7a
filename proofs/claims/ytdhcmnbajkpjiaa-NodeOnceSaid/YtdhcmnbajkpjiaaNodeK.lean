/-
  The example of the chapter of forests.
-/
import Derived.Test.YtdhcmnbajkpjiaaNodeJ
namespace Go.Proofs.Ytdhcmnbajkpjiaa
open Go.RowKit
open Go.Maps
set_option linter.unusedVariables false
set_option linter.unusedSimpArgs false
attribute [local go_sem] drewN_alloc drewN_setCell

set_option maxHeartbeats 1000000 in
theorem law37_works (w : World) : Calls Try.prog 35 #[] w fun e w' => e = .returned (.bool true) ∧ Below w.heap.size w w' := by
  have A1 := fun (W : World) (own : Nat → Prop) (Fb : Nat) (h : ForestOver w W own Fb 5 (FSt.new 5)) => overf_Root h
  rw [show FSt.told (FSt.new 5) 5 = .tuple #[.int .i64 0, .int .i64 0, .bool true] by rfl] at A1
  have A2 := fun (W : World) (own : Nat → Prop) (Fb : Nat) (h : ForestOver w W own Fb 5 (FSt.add (FSt.new 5) 5 5 (-1))) => overf_Child 0 h
  rw [show FSt.toldC (FSt.add (FSt.new 5) 5 5 (-1)) 5 0 = .tuple #[.int .i64 1, .int .i64 0, .bool true] by rfl] at A2
  have A3 := fun (W : World) (own : Nat → Prop) (Fb : Nat) (h : ForestOver w W own Fb 5 (FSt.child (FSt.add (FSt.new 5) 5 5 (-1)) 5 0)) => overf_Child 0 h
  rw [show FSt.toldC (FSt.child (FSt.add (FSt.new 5) 5 5 (-1)) 5 0) 5 0 = .tuple #[.int .i64 2, .int .i64 0, .bool true] by rfl] at A3
  have A4 := fun (W : World) (own : Nat → Prop) (Fb : Nat) (h : ForestOver w W own Fb 5 (FSt.child (FSt.child (FSt.add (FSt.new 5) 5 5 (-1)) 5 0) 5 0)) => overf_Drop 0 h
  rw [show dropOk (FSt.O (FSt.child (FSt.child (FSt.add (FSt.new 5) 5 5 (-1)) 5 0) 5 0)) (FSt.R (FSt.child (FSt.child (FSt.add (FSt.new 5) 5 5 (-1)) 5 0) 5 0)) 0 = false by decide +kernel] at A4
  have A5 := fun (W : World) (own : Nat → Prop) (Fb : Nat) (h : ForestOver w W own Fb 5 (FSt.drop (FSt.child (FSt.child (FSt.add (FSt.new 5) 5 5 (-1)) 5 0) 5 0) 5 0)) => overf_Drop 1 h
  rw [show dropOk (FSt.O (FSt.drop (FSt.child (FSt.child (FSt.add (FSt.new 5) 5 5 (-1)) 5 0) 5 0) 5 0)) (FSt.R (FSt.drop (FSt.child (FSt.child (FSt.add (FSt.new 5) 5 5 (-1)) 5 0) 5 0) 5 0)) 1 = true by decide +kernel] at A5
  obtain ⟨S, hS⟩ : ∃ S, (FSt.drop (FSt.drop (FSt.child (FSt.child (FSt.add (FSt.new 5) 5 5 (-1)) 5 0) 5 0) 5 0) 5 1) = S := ⟨_, rfl⟩
  have v1 : ints (kidV S.O S.R 0) = [2] := by rw [← hS]; decide +kernel
  have v2 : parV S.O S.up 2 = 0 := by rw [← hS]; decide +kernel
  have v3 : S.O.length = 2 := by rw [← hS]; decide +kernel
  rw [hS] at A5
  have B1 := fun (W : World) (own : Nat → Prop) (Fb : Nat) (h : ForestOver w W own Fb 5 S) => overf_Children 0 h
  have B2 := fun (W : World) (own : Nat → Prop) (Fb : Nat) (h : ForestOver w W own Fb 5 S) => overf_Parent 2 h
  have B3 := fun (W : World) (own : Nat → Prop) (Fb : Nat) (h : ForestOver w W own Fb 5 S) => overf_Len h
  rw [v1] at B1
  rw [v2] at B2
  rw [v3] at B3
  have N := Lib.hid (overf_New 5 w (by omega))
  replace A1 := Lib.hid A1
  replace A2 := Lib.hid A2
  replace A3 := Lib.hid A3
  replace A4 := Lib.hid A4
  replace A5 := Lib.hid A5
  replace B1 := Lib.hid B1
  replace B2 := Lib.hid B2
  replace B3 := Lib.hid B3
  clear v1 v2 v3 hS
  go_enter Try.func35, Try.ntmps35
  go_wp2_with fail
  refine N.out.mono ?_
  rintro e w1 ⟨Fb, o1, rfl, h1⟩
  replace h1 := Lib.hid h1
  go_wp2_with fail
  refine (A1.out _ _ _ h1.out).mono ?_
  rintro e w2 ⟨rfl, o2, h2, -⟩
  replace h2 := Lib.hid h2
  go_wp2_with fail
  refine (A2.out _ _ _ h2.out).mono ?_
  rintro e w3 ⟨rfl, o3, h3, -⟩
  replace h3 := Lib.hid h3
  go_wp2_with fail
  refine (A3.out _ _ _ h3.out).mono ?_
  rintro e w4 ⟨rfl, o4, h4, -⟩
  replace h4 := Lib.hid h4
  go_wp2_with fail
  refine (A4.out _ _ _ h4.out).mono ?_
  rintro e w5 ⟨rfl, o5, h5, -⟩
  replace h5 := Lib.hid h5
  go_wp2_with fail
  refine (A5.out _ _ _ h5.out).mono ?_
  rintro e w6 ⟨rfl, o6, h6, -⟩
  replace h6 := Lib.hid h6
  go_wp2_with fail
  refine (B1.out _ _ _ h6.out).mono ?_
  rintro e w7 ⟨A, m, c, rfl, hA, hb⟩
  replace h7 := Lib.hid (h6.out.keep hb)
  replace hA := Lib.hid hA
  clear hb
  go_wp2_with fail
  refine (base_SameInts c 1 (hA.out.1.keep (bel_alloc (Below.refl _ _) _)) (ints_one _ _ 2)).mono ?_
  rintro e w8 ⟨rfl, hb⟩
  have h8 := Lib.hid (h7.out.keep (bel_trans (bel_alloc (Below.refl _ _) _) hb))
  clear hb
  go_wp2_with fail
  refine (B2.out _ _ _ h8.out).mono ?_
  rintro e w9 ⟨rfl, rfl⟩
  go_wp2_with fail
  refine (B3.out _ _ _ h8.out).mono ?_
  rintro e w9 ⟨rfl, rfl⟩
  go_wp2_with fail
  go_ret
  exact ⟨rfl, h8.out.below⟩
end Go.Proofs.Ytdhcmnbajkpjiaa
