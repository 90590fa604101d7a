/-
  Chapter 5: a chain and the reference's rows tell the same.
-/
import Derived.Test.YtdhcmnbajkpjiaaRefD
import Derived.Test.YtdhcmnbajkpjiaaChainJ
import Derived.BigQuiet
import Derived.Deep.QuietTactic
namespace Go.Proofs.Ytdhcmnbajkpjiaa
open Go.RowKit
set_option linter.unusedVariables false
attribute [local go_sem] drewN_alloc drewN_setCell

theorem RowsAt.off {B Nb Lb : Nat} {w w' : World} {A : Option Addr} {l : Nat} {R : Nat → List Nat} (h : RowsAt B w A l R) (h1 : Nb < B) (h2 : Lb < B) (o : Off Nb Lb w w') : RowsAt B w' A l R := by
  obtain ⟨h0, b, off, e, hb, hc⟩ := h
  refine ⟨h0, b, off, e, fun hl => ⟨Nat.lt_of_lt_of_le (hb hl).1 o.size, (hb hl).2⟩, fun i hi => ?_⟩
  obtain ⟨v, h3, A1, n1, c1, h4, h5, h6⟩ := hc i hi
  have hb' := hb (by omega)
  exact ⟨v, (o.cell (a := ⟨b, off + i, none⟩) (by show b ≠ Nb; omega) (by show b ≠ Lb; omega) hb'.1).trans h3, A1, n1, c1, h4, h5.off h1 h2 o, h6⟩

theorem row_ends {r : List Nat} (h : 0 < r.length) : (ints r).getD 0 0 = PC.headD r ∧ (ints r).getD (r.length - 1) 0 = PC.lastD r := by
  constructor
  · cases r with
    | nil => simp at h
    | cons x r => rfl
  · rcases PC.lastD_cases r with ⟨e, _⟩ | ⟨c, y, e1, e2⟩
    · subst e; simp at h
    · rw [e2, e1, ints_get (by simp)]; simp

set_option maxRecDepth 100000 in
set_option maxHeartbeats 2000000 in
theorem law05_same {w : World} {C Nb Lb n l : Nat} {R : Nat → List Nat} {A : Option Addr} {B : Nat} (c : Nat) (x i : Int) (h : ChainRows w C Nb Lb n l R) (h2 : RowsAt B w A l R) :
    Calls Try.prog 26 #[.pointer (some ⟨C, 0, none⟩), .slice A l c, .int .i64 x, .int .i64 i] w fun e w' => e = .returned (.bool true) ∧ Below w.heap.size w w' := by
  have cO := fun W (hW : ChainRows W C Nb Lb n l R) => chain_Of x hW
  have rO := fun W (hW : RowsAt B W A l R) => ref05_Of A l c R x W hW
  have cN := fun W (hW : ChainRows W C Nb Lb n l R) => chain_Next x hW
  have rN := fun W (hW : RowsAt B W A l R) => ref05_Beside A l c R x 1 W hW (by omega)
  rw [PC.beside_next] at rN
  have cB := fun W (hW : ChainRows W C Nb Lb n l R) => chain_Back x hW
  have rB := fun W (hW : RowsAt B W A l R) => ref05_Beside A l c R x (-1) W hW (by omega)
  rw [PC.beside_back] at rB
  have cLen := fun W (hW : ChainRows W C Nb Lb n l R) => chain_Len i hW
  have cL := fun W (hW : ChainRows W C Nb Lb n l R) => chain_List i hW
  have cF := fun W (hW : ChainRows W C Nb Lb n l R) => chain_First i hW
  have cLa := fun W (hW : ChainRows W C Nb Lb n l R) => chain_Last i hW
  have rR := ref05_Row A l c R i w h2
  generalize PC.ofV l R x = ov at *
  generalize PC.nextV l R x = nv at *
  generalize PC.backV l R x = bv at *
  obtain ⟨r, hr⟩ : ∃ r, PC.rowV l R i = r := ⟨_, rfl⟩
  rw [hr] at cLen cL cF cLa rR
  replace cO := Lib.hid cO
  replace rO := Lib.hid rO
  replace cN := Lib.hid cN
  replace rN := Lib.hid rN
  replace cB := Lib.hid cB
  replace rB := Lib.hid rB
  replace cLen := Lib.hid cLen
  replace cL := Lib.hid cL
  replace cF := Lib.hid cF
  replace cLa := Lib.hid cLa
  replace rR := Lib.hid rR
  replace h := Lib.hid h
  replace h2 := Lib.hid h2
  clear hr
  have u1 : (ov == ov) = true := by simp
  have u2 : (nv == nv) = true := by simp
  have u3 : (bv == bv) = true := by simp
  go_enter Try.func26, Try.ntmps26
  go_wp2_with fail
  refine rR.out.mono ?_
  rintro e w1 ⟨v, rfl, ⟨A1, m, c1, rfl, ⟨hi, -⟩, -⟩, rfl⟩
  have hm : m = r.length := by have := hi.1; rw [ints_len] at this; omega
  have hm2 := hi.2.1
  subst hm
  have HI := Lib.hid hi
  by_cases h0 : 0 < r.length
  · obtain ⟨e1, e2⟩ := row_ends h0
    obtain ⟨b, off, rfl, hb, hc⟩ := hi.2.2 h0
    have f0 := hc 0 h0
    have f1 := hc (r.length - 1) (by omega)
    rw [e1, Nat.add_zero] at f0
    rw [e2] at f1
    generalize PC.headD r = hd at *
    generalize PC.lastD r = la at *
    have u4 : (hd == hd) = true := by simp
    have u5 : (la == la) = true := by simp
    have u6 : (((r.length : Nat) : Int) == ((r.length : Nat) : Int)) = true := by simp
    have q0 : (0 : Int) < ((r.length : Nat) : Int) := by omega
    have q1 : ((r.length : Nat) : Int) - 1 = ((r.length - 1 : Nat) : Int) := by omega
    have q2 : (0 : Int) ≤ ((r.length - 1 : Nat) : Int) := by omega
    have q3 : ((r.length - 1 : Nat) : Int) < ((r.length : Nat) : Int) := by omega
    have q4 : ((r.length : Nat) : Int) ≤ 9223372036854775807 := by omega
    have q5 : IntKind.i64.wrap (((r.length : Nat) : Int) - 1) = ((r.length - 1 : Nat) : Int) := by rw [IntKind.wrap_i64]; omega
    have q6 : r.length - 1 < r.length := by omega
    clear e1 e2 hc hb hi
    go_wp2_with fail
    go_quiet (fail)
    have hq := Lib.hid (h.out.keep (bel_drewN (Below.refl _ _) nq))
    have hq2 := Lib.hid (h2.out.keep (bel_drewN (Below.refl _ _) nq))
    have hqi := Lib.hid (HI.out.keep (bel_drewN (Below.refl _ _) nq))
    have hqb := Lib.hid (bel_drewN (Below.refl w.heap.size w) nq)
    clear q1 q5 f0 f1
    go_wp2_with fail
    refine (cO.out _ hq.out).mono ?_
    rintro e w9 ⟨rfl, rfl⟩
    go_wp2_with fail
    refine (rO.out _ hq2.out).mono ?_
    rintro e w9 ⟨rfl, rfl⟩
    go_wp2_with fail
    refine (cN.out _ hq.out).mono ?_
    rintro e w9 ⟨rfl, rfl⟩
    go_wp2_with fail
    refine (rN.out _ hq2.out).mono ?_
    rintro e w9 ⟨rfl, rfl⟩
    go_wp2_with fail
    refine (cB.out _ hq.out).mono ?_
    rintro e w9 ⟨rfl, rfl⟩
    go_wp2_with fail
    refine (rB.out _ hq2.out).mono ?_
    rintro e w9 ⟨rfl, rfl⟩
    go_wp2_with fail
    refine (cLen.out _ hq.out).mono ?_
    rintro e w9 ⟨rfl, rfl⟩
    go_wp2_with fail
    refine (cL.out _ hq.out).mono ?_
    rintro e w2 ⟨A2, m2, c2, rfl, i2, b2⟩
    have hi2 := Lib.hid (hqi.out.keep b2)
    have i2' := Lib.hid i2.1
    have hh := Lib.hid (hq.out.keep b2)
    have bb := Lib.hid (bel_trans hqb.out b2)
    clear i2 b2
    go_wp2_with fail
    refine (base_SameInts c2 c1 i2'.out hi2.out).mono ?_
    rw [decide_eq_true rfl]
    rintro e w3 ⟨rfl, b3⟩
    have hh3 := Lib.hid (hh.out.keep b3)
    have bb3 := Lib.hid (bel_trans bb.out b3)
    clear b3
    go_wp2_with fail
    refine (cF.out _ hh3.out).mono ?_
    rintro e w9 ⟨rfl, rfl⟩
    go_wp2_with fail
    refine (cLa.out _ hh3.out).mono ?_
    rintro e w9 ⟨rfl, rfl⟩
    go_wp2_with fail
    go_ret
    exact ⟨rfl, bb3.out⟩
  · obtain rfl : r = [] := List.eq_nil_of_length_eq_zero (by omega)
    have hb0 := Lib.hid (Below.refl w.heap.size w)
    rw [PC.headD_nil] at cF
    rw [PC.lastD_nil] at cLa
    simp only [List.length_nil] at cLen h0 hm2 HI hi ⊢
    clear h0 hi hm2
    go_wp2_with fail
    refine (cO.out _ h.out).mono ?_
    rintro e w9 ⟨rfl, rfl⟩
    go_wp2_with fail
    refine (rO.out _ h2.out).mono ?_
    rintro e w9 ⟨rfl, rfl⟩
    go_wp2_with fail
    refine (cN.out _ h.out).mono ?_
    rintro e w9 ⟨rfl, rfl⟩
    go_wp2_with fail
    refine (rN.out _ h2.out).mono ?_
    rintro e w9 ⟨rfl, rfl⟩
    go_wp2_with fail
    refine (cB.out _ h.out).mono ?_
    rintro e w9 ⟨rfl, rfl⟩
    go_wp2_with fail
    refine (rB.out _ h2.out).mono ?_
    rintro e w9 ⟨rfl, rfl⟩
    go_wp2_with fail
    refine (cLen.out _ h.out).mono ?_
    rintro e w9 ⟨rfl, rfl⟩
    go_wp2_with fail
    refine (cL.out _ h.out).mono ?_
    rintro e w2 ⟨A2, m2, c2, rfl, i2, b2⟩
    have hi2 := Lib.hid (HI.out.keep b2)
    have i2' := Lib.hid i2.1
    have hh := Lib.hid (h.out.keep b2)
    have bb := Lib.hid (bel_trans hb0.out b2)
    clear i2 b2
    go_wp2_with fail
    refine (base_SameInts c2 c1 i2'.out hi2.out).mono ?_
    rw [decide_eq_true rfl]
    rintro e w3 ⟨rfl, b3⟩
    have hh3 := Lib.hid (hh.out.keep b3)
    have bb3 := Lib.hid (bel_trans bb.out b3)
    clear b3
    go_wp2_with fail
    refine (cF.out _ hh3.out).mono ?_
    rintro e w9 ⟨rfl, rfl⟩
    go_wp2_with fail
    refine (cLa.out _ hh3.out).mono ?_
    rintro e w9 ⟨rfl, rfl⟩
    go_wp2_with fail
    go_ret
    exact ⟨rfl, bb3.out⟩
end Go.Proofs.Ytdhcmnbajkpjiaa
