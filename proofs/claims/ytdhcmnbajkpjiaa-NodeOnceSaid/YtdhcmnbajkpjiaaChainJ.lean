/-
  Chain: one hypothesis for a chain that a call made; the example of the chapter.
-/
import Derived.Test.YtdhcmnbajkpjiaaChainZ
import Derived.Test.YtdhcmnbajkpjiaaChainH
namespace Go.Proofs.Ytdhcmnbajkpjiaa
open Go.RowKit
set_option linter.unusedVariables false
attribute [local go_sem] drewN_alloc drewN_setCell

/-- A chain made since w0; all that was there at w0 is as it was. -/
structure ChainOver (w0 w : World) (C Nb Lb n l : Nat) (R : Nat → List Nat) : Prop where
  rows : ChainRows w C Nb Lb n l R
  below : Below w0.heap.size w0 w
  b1 : w0.heap.size ≤ C
  b2 : w0.heap.size ≤ Nb
  b3 : w0.heap.size ≤ Lb

theorem ChainRows.lt1 {w : World} {C Nb Lb n l : Nat} {R : Nat → List Nat} (h : ChainRows w C Nb Lb n l R) : C < w.heap.size ∧ Nb < w.heap.size ∧ Lb < w.heap.size := by
  obtain ⟨S, h1, h2⟩ := h
  exact ⟨h1.hC, h1.hN, h1.hL⟩
section
variable {w0 w w' : World} {C Nb Lb n l : Nat} {R : Nat → List Nat}
theorem ChainOver.keep (h : ChainOver w0 w C Nb Lb n l R) (hb : Below w.heap.size w w') : ChainOver w0 w' C Nb Lb n l R :=
  ⟨h.rows.keep hb, bel_trans h.below hb, h.b1, h.b2, h.b3⟩
theorem IntsFrom.off {B : Nat} {A : Option Addr} {m : Nat} {xs : List Int} (h : IntsFrom B w A m xs) (h1 : Nb < B) (h2 : Lb < B) (o : Off Nb Lb w w') : IntsFrom B w' A m xs :=
  ⟨⟨h.1.1, h.1.2.1, fun hn => by
    obtain ⟨b, off, e, hb, hc⟩ := h.1.2.2 hn
    obtain ⟨b', off', e', hb'⟩ := h.2 hn
    subst e
    simp only [Option.some.injEq, Addr.mk.injEq] at e'
    obtain ⟨rfl, rfl, -⟩ := e'
    exact ⟨b, off, rfl, Nat.lt_of_lt_of_le hb o.size, fun i hi => (o.cell (a := ⟨b, off + i, none⟩) (by show b ≠ Nb; omega) (by show b ≠ Lb; omega) hb).trans (hc i hi)⟩⟩, h.2⟩

theorem over_New (l n : Nat) (w : World) (h1 : l ≤ 1048576) (h2 : n ≤ 1048576) :
    Calls Try.prog 18 #[.int .i64 l, .int .i64 n] w fun e w' => ∃ C Nb Lb, e = .returned (.pointer (some ⟨C, 0, none⟩)) ∧ ChainOver w w' C Nb Lb n l PC.none0 :=
  (chain_New_yes l n w h1 h2).mono fun e w' ⟨C, Nb, Lb, he, h3, h4, h5, h6, h7⟩ => ⟨C, Nb, Lb, he, h3, h4, h5, h6, h7⟩
theorem over_Add (i x : Int) (h : ChainOver w0 w C Nb Lb n l R) :
    Calls Try.prog 19 #[.pointer (some ⟨C, 0, none⟩), .int .i64 i, .int .i64 x] w fun e w' => e = .returned (.bool (PC.addB n l R i x)) ∧ ChainOver w0 w' C Nb Lb n l (PC.addR n l R i x) ∧ Off Nb Lb w w' :=
  (chain_Add i x h.rows).mono fun e w' ⟨he, hr, ho⟩ => ⟨he, ⟨hr, h.below.trans (ho.below h.b2 h.b3 h.below.size), h.b1, h.b2, h.b3⟩, ho⟩
theorem over_Drop (x : Int) (h : ChainOver w0 w C Nb Lb n l R) :
    Calls Try.prog 21 #[.pointer (some ⟨C, 0, none⟩), .int .i64 x] w fun e w' => e = .returned (.bool (PC.dropB l R x)) ∧ ChainOver w0 w' C Nb Lb n l (PC.dropR l R x) ∧ Off Nb Lb w w' :=
  (chain_Drop x h.rows).mono fun e w' ⟨he, hr, ho⟩ => ⟨he, ⟨hr, h.below.trans (ho.below h.b2 h.b3 h.below.size), h.b1, h.b2, h.b3⟩, ho⟩
end

/-- One slice of one int, just made. -/
theorem ints_one (w : World) (t : TypeId) (x : Int) : IntsAt (w.alloc (.cells #[.int .i64 x] t)) (some ⟨w.heap.size, 0, none⟩) 1 [x] :=
  ⟨rfl, by omega, fun _ => ⟨w.heap.size, 0, rfl, by simp, fun i hi => by
    have e : i = 0 := by omega
    subst e
    simp [go_sem]⟩⟩

set_option maxHeartbeats 1000000 in
theorem law05_works (w : World) : Calls Try.prog 17 #[] w fun e w' => e = .returned (.bool true) ∧ Below w.heap.size w w' := by
  have A1 := fun (W : World) (C Nb Lb : Nat) (h : ChainOver w W C Nb Lb 6 2 PC.none0) => over_Add 0 5 h
  have A2 := fun (W : World) (C Nb Lb : Nat) (h : ChainOver w W C Nb Lb 6 2 (PC.addR 6 2 PC.none0 0 5)) => over_Add 0 3 h
  have A3 := fun (W : World) (C Nb Lb : Nat) (h : ChainOver w W C Nb Lb 6 2 (PC.addR 6 2 (PC.addR 6 2 PC.none0 0 5) 0 3)) => over_Add 1 5 h
  have A4 := fun (W : World) (C Nb Lb : Nat) (h : ChainOver w W C Nb Lb 6 2 (PC.addR 6 2 (PC.addR 6 2 (PC.addR 6 2 PC.none0 0 5) 0 3) 1 5)) => over_Drop 5 h
  rw [show PC.addB 6 2 PC.none0 0 5 = true by decide +kernel] at A1
  rw [show PC.addB 6 2 (PC.addR 6 2 PC.none0 0 5) 0 3 = true by decide +kernel] at A2
  rw [show PC.addB 6 2 (PC.addR 6 2 (PC.addR 6 2 PC.none0 0 5) 0 3) 1 5 = false by decide +kernel] at A3
  rw [show PC.dropB 2 (PC.addR 6 2 (PC.addR 6 2 (PC.addR 6 2 PC.none0 0 5) 0 3) 1 5) 5 = true by decide +kernel] at A4
  obtain ⟨R, hR⟩ : ∃ R, PC.dropR 2 (PC.addR 6 2 (PC.addR 6 2 (PC.addR 6 2 PC.none0 0 5) 0 3) 1 5) 5 = R := ⟨_, rfl⟩
  have v1 : ints (PC.rowV 2 R 0) = [3] := by rw [← hR]; decide +kernel
  have v2 : PC.ofV 2 R 3 = 0 := by rw [← hR]; decide +kernel
  have v3 : PC.ofV 2 R 5 = -1 := by rw [← hR]; decide +kernel
  have v4 : PC.headD (PC.rowV 2 R 0) = 3 := by rw [← hR]; decide +kernel
  rw [hR] at A4
  have B1 := fun (W : World) (C Nb Lb : Nat) (h : ChainRows W C Nb Lb 6 2 R) => chain_List 0 h
  have B2 := fun (W : World) (C Nb Lb : Nat) (h : ChainRows W C Nb Lb 6 2 R) => chain_Of 3 h
  have B3 := fun (W : World) (C Nb Lb : Nat) (h : ChainRows W C Nb Lb 6 2 R) => chain_Of 5 h
  have B4 := fun (W : World) (C Nb Lb : Nat) (h : ChainRows W C Nb Lb 6 2 R) => chain_First 0 h
  rw [v1] at B1
  rw [v2] at B2
  rw [v3] at B3
  rw [v4] at B4
  have N := Lib.hid (over_New 2 6 w (by omega) (by omega))
  replace A1 := Lib.hid A1
  replace A2 := Lib.hid A2
  replace A3 := Lib.hid A3
  replace A4 := Lib.hid A4
  replace B1 := Lib.hid B1
  replace B2 := Lib.hid B2
  replace B3 := Lib.hid B3
  replace B4 := Lib.hid B4
  clear v1 v2 v3 v4 hR
  go_enter Try.func17, Try.ntmps17
  go_wp2_with fail
  refine N.out.mono ?_
  rintro e w1 ⟨C, Nb, Lb, rfl, h1⟩
  replace h1 := Lib.hid h1
  go_wp2_with fail
  refine (A1.out _ _ _ _ h1.out).mono ?_
  rintro e w2 ⟨rfl, h2, -⟩
  replace h2 := Lib.hid h2
  go_wp2_with fail
  refine (A2.out _ _ _ _ h2.out).mono ?_
  rintro e w3 ⟨rfl, h3, -⟩
  replace h3 := Lib.hid h3
  go_wp2_with fail
  refine (A3.out _ _ _ _ h3.out).mono ?_
  rintro e w4 ⟨rfl, h4, -⟩
  replace h4 := Lib.hid h4
  go_wp2_with fail
  refine (A4.out _ _ _ _ h4.out).mono ?_
  rintro e w5 ⟨rfl, h5, -⟩
  replace h5 := Lib.hid h5
  go_wp2_with fail
  refine (B1.out _ _ _ _ h5.out.rows).mono ?_
  rintro e w6 ⟨A, m, c, rfl, hA, hb⟩
  replace h6 := Lib.hid (h5.out.keep hb)
  replace hA := Lib.hid hA
  clear hb
  go_wp2_with fail
  refine (base_SameInts c 1 (hA.out.1.keep (bel_alloc (Below.refl _ _) _)) (ints_one _ _ 3)).mono ?_
  rintro e w7 ⟨rfl, hb⟩
  have h7 := Lib.hid (h6.out.keep (bel_trans (bel_alloc (Below.refl _ _) _) hb))
  clear hb
  go_wp2_with fail
  refine (B2.out _ _ _ _ h7.out.rows).mono ?_
  rintro e w8 ⟨rfl, rfl⟩
  go_wp2_with fail
  refine (B3.out _ _ _ _ h7.out.rows).mono ?_
  rintro e w8 ⟨rfl, rfl⟩
  go_wp2_with fail
  refine (B4.out _ _ _ _ h7.out.rows).mono ?_
  rintro e w8 ⟨rfl, rfl⟩
  go_wp2_with fail
  go_ret
  exact ⟨rfl, h7.out.below⟩
end Go.Proofs.Ytdhcmnbajkpjiaa
