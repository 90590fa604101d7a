/-
  The walk of the law SpansCuts.
-/
import Derived.Test.YtfgfnfjeopjbgaaSpanU
namespace Go.Proofs.Ytfgfnfjeopjbgaa
open Go.RowKit
set_option linter.unusedVariables false
set_option linter.unusedSimpArgs false
attribute [local go_sem] drewN_alloc drewN_setCell

set_option maxRecDepth 100000 in
set_option maxHeartbeats 8000000 in
theorem law08_SpansCuts (A : Option Addr) (n c : Nat) (l : List PS.Sp) (n0 n1 en : Int) (w : World) (h : SpansAt w A n l) (hc : CapOk A n c) (h0 : -9223372036854775808 ≤ n0 ∧ n0 ≤ 9223372036854775807) (h1 : -9223372036854775808 ≤ n1 ∧ n1 ≤ 9223372036854775807) (he : -9223372036854775808 ≤ en ∧ en ≤ 9223372036854775807) :
    Calls Try.prog 14 #[.slice A n c, .agg #[.int .i64 n0, .int .i64 n1], .int .i64 en] w fun e w' => e = .returned (.bool true) ∧ Below w.heap.size w w' := by
  have hn := h.2.1
  by_cases hbig : (40 : Int) < n
  · clear h hc
    go_enter Try.func14, Try.ntmps14
    go_wp2_with fail
    refine (law08_works _).mono ?_
    rintro e w5 ⟨rfl, h5⟩
    go_wp2_with fail
    go_ret
    exact ⟨rfl, (by repeat (first | exact Below.refl _ _ | assumption | refine bel_drew ?_ | refine bel_drewN ?_ _ | refine bel_alloc ?_ _ | refine bel_set ?_ (by first | (dsimp only; omega) | (simp; done) | (simp; omega)) _ | refine bel_trans ?_ (by assumption)))⟩
  · replace hbig : (n : Int) ≤ 40 := by omega
    obtain ⟨w0, hw0⟩ : ∃ w0, w.alloc (.cells #[.int .i64 n0, .int .i64 n1] 31) = w0 := ⟨_, rfl⟩
    have hB0 : Below w.heap.size w w0 := by rw [← hw0]; exact bel_alloc (Below.refl _ _) _
    have d0 : w0.cell? ⟨w.heap.size, 0, none⟩ = some (.int .i64 n0) := by rw [← hw0]; simp [go_sem]
    have d1 : w0.cell? ⟨w.heap.size, 1, none⟩ = some (.int .i64 n1) := by rw [← hw0]; simp [go_sem]
    have ds : w.heap.size < w0.heap.size := by rw [← hw0]; simp
    have h' := h.keep hB0
    have hn' : n ≤ 1000 := by omega
    have K1 := fun W (hW : Below w0.heap.size w0 W) => spans_Merge c (h'.keep hW) hn'
    have K2 := fun W (hW : Below w0.heap.size w0 W) => ref08_Merge c (h'.keep hW) hn'
    have K3 := fun W (hW : Below w0.heap.size w0 W) => spans_Cut n0 n1 (h'.keep hW) hc hn' h0 h1
    have K4 := fun W (hW : Below w0.heap.size w0 W) => ref08_Cut n0 n1 (h'.keep hW) hc hn' h0 h1
    have K5 := fun W (hW : Below w0.heap.size w0 W) => spans_Holes c en (h'.keep hW) hn' he.2
    have K6 := fun W (hW : Below w0.heap.size w0 W) => ref08_Holes c en (h'.keep hW) hn' he.2
    have K7 : ∀ W A' B' c' d' (k : Nat) (z : List PS.Sp), SpansAt W A' k z → SpansAt W B' k z → Calls Try.prog 34 #[.slice A' k c', .slice B' k d'] W fun e w' => e = .returned (.bool true) ∧ Below W.heap.size W w' := fun W A' B' c' d' k z h1 h2 => by
      have := base_SameSpans c' d' h1 h2
      rwa [decide_eq_true rfl] at this
    generalize mergeV l = L1 at *
    generalize PS.right l = B1 at *
    generalize cutV l n0 n1 = L2 at *
    generalize cutB l n0 n1 = B2 at *
    generalize PS.holes l en = L3 at *
    generalize L1.length = q1 at *
    generalize L2.length = q2 at *
    generalize L3.length = q3 at *
    obtain ⟨bs, hbs⟩ : ∃ bs, w.heap.size = bs := ⟨_, rfl⟩
    have D0 : Hid (w0.cell? ⟨bs, 0, none⟩ = some (.int .i64 n0)) := Lib.hid (by rw [← hbs]; exact d0)
    have D1 : Hid (w0.cell? ⟨bs, 1, none⟩ = some (.int .i64 n1)) := Lib.hid (by rw [← hbs]; exact d1)
    have DS : Hid (bs < w0.heap.size) := Lib.hid (by rw [← hbs]; exact ds)
    have HSZ : Hid (w.heap.size ≤ w0.heap.size) := Lib.hid (by omega)
    replace K1 := Lib.hid K1
    replace K2 := Lib.hid K2
    replace K3 := Lib.hid K3
    replace K4 := Lib.hid K4
    replace K5 := Lib.hid K5
    replace K6 := Lib.hid K6
    replace K7 := Lib.hid K7
    replace hB0 := Lib.hid hB0
    replace hw0 := Lib.hid hw0
    replace hbs := Lib.hid hbs
    clear h h' d0 d1 ds hc
    go_enter Try.func14, Try.ntmps14
    go_wp2_with fail
    rw [hw0.out, hbs.out]
    refine (K1.out _ (Below.refl _ _)).mono ?_
    rintro e w1 ⟨A1, c1, rfl, s1, -, g1⟩
    replace s1 := Lib.hid s1
    go_wp2_with fail
    refine (K2.out _ (by repeat (first | exact Below.refl _ _ | assumption | refine bel_drew ?_ | refine bel_drewN ?_ _ | refine bel_alloc ?_ _ | refine bel_set ?_ (by first | (dsimp only; omega) | (simp; done) | (simp; omega)) _ | refine bel_trans ?_ (by assumption)))).mono ?_
    rintro e w2 ⟨A2, c2, rfl, s2, -, g2⟩
    replace s1 := Lib.hid (s1.out.keep g2)
    replace s2 := Lib.hid s2
    have B2' : Below w0.heap.size w0 w2 := (by repeat (first | exact Below.refl _ _ | assumption | refine bel_drew ?_ | refine bel_drewN ?_ _ | refine bel_alloc ?_ _ | refine bel_set ?_ (by first | (dsimp only; omega) | (simp; done) | (simp; omega)) _ | refine bel_trans ?_ (by assumption)))
    have e20 := cell_after B2' DS.out D0.out
    have e21 := cell_after B2' DS.out D1.out
    have z2 : bs < w2.heap.size := Nat.lt_of_lt_of_le DS.out B2'.size
    go_wp2_with fail
    refine (K3.out _ (by repeat (first | exact Below.refl _ _ | assumption | refine bel_drew ?_ | refine bel_drewN ?_ _ | refine bel_alloc ?_ _ | refine bel_set ?_ (by first | (dsimp only; omega) | (simp; done) | (simp; omega)) _ | refine bel_trans ?_ (by assumption)))).mono ?_
    rintro e w3 ⟨A3, c3, rfl, s3, -, g3⟩
    replace s1 := Lib.hid (s1.out.keep g3)
    replace s2 := Lib.hid (s2.out.keep g3)
    replace s3 := Lib.hid s3
    have e30 := cell_after g3 z2 e20
    have e31 := cell_after g3 z2 e21
    have B3' : Below w0.heap.size w0 w3 := (by repeat (first | exact Below.refl _ _ | assumption | refine bel_drew ?_ | refine bel_drewN ?_ _ | refine bel_alloc ?_ _ | refine bel_set ?_ (by first | (dsimp only; omega) | (simp; done) | (simp; omega)) _ | refine bel_trans ?_ (by assumption)))
    go_wp2_with fail
    refine (K4.out _ (by repeat (first | exact Below.refl _ _ | assumption | refine bel_drew ?_ | refine bel_drewN ?_ _ | refine bel_alloc ?_ _ | refine bel_set ?_ (by first | (dsimp only; omega) | (simp; done) | (simp; omega)) _ | refine bel_trans ?_ (by assumption)))).mono ?_
    rintro e w4 ⟨A4, c4, rfl, s4, -, g4⟩
    replace s1 := Lib.hid (s1.out.keep g4)
    replace s2 := Lib.hid (s2.out.keep g4)
    replace s3 := Lib.hid (s3.out.keep g4)
    replace s4 := Lib.hid s4
    have B4' : Below w0.heap.size w0 w4 := (by repeat (first | exact Below.refl _ _ | assumption | refine bel_drew ?_ | refine bel_drewN ?_ _ | refine bel_alloc ?_ _ | refine bel_set ?_ (by first | (dsimp only; omega) | (simp; done) | (simp; omega)) _ | refine bel_trans ?_ (by assumption)))
    clear e20 e21 e30 e31
    go_wp2_with fail
    refine (K7.out _ _ _ _ _ _ _ s1.out s2.out).mono ?_
    rintro e w5 ⟨rfl, g5⟩
    replace s3 := Lib.hid (s3.out.keep g5)
    replace s4 := Lib.hid (s4.out.keep g5)
    go_wp2_with fail
    refine (K7.out _ _ _ _ _ _ _ s3.out s4.out).mono ?_
    rintro e w6 ⟨rfl, g6⟩
    have B6' : Below w0.heap.size w0 w6 := (by repeat (first | exact Below.refl _ _ | assumption | refine bel_drew ?_ | refine bel_drewN ?_ _ | refine bel_alloc ?_ _ | refine bel_set ?_ (by first | (dsimp only; omega) | (simp; done) | (simp; omega)) _ | refine bel_trans ?_ (by assumption)))
    go_wp2_with fail
    refine (K5.out _ (by repeat (first | exact Below.refl _ _ | assumption | refine bel_drew ?_ | refine bel_drewN ?_ _ | refine bel_alloc ?_ _ | refine bel_set ?_ (by first | (dsimp only; omega) | (simp; done) | (simp; omega)) _ | refine bel_trans ?_ (by assumption)))).mono ?_
    rintro e w7 ⟨A7, c7, rfl, s7, -, g7⟩
    replace s7 := Lib.hid s7
    have B7' : Below w0.heap.size w0 w7 := (by repeat (first | exact Below.refl _ _ | assumption | refine bel_drew ?_ | refine bel_drewN ?_ _ | refine bel_alloc ?_ _ | refine bel_set ?_ (by first | (dsimp only; omega) | (simp; done) | (simp; omega)) _ | refine bel_trans ?_ (by assumption)))
    go_wp2_with fail
    refine (K6.out _ (by repeat (first | exact Below.refl _ _ | assumption | refine bel_drew ?_ | refine bel_drewN ?_ _ | refine bel_alloc ?_ _ | refine bel_set ?_ (by first | (dsimp only; omega) | (simp; done) | (simp; omega)) _ | refine bel_trans ?_ (by assumption)))).mono ?_
    rintro e w8 ⟨A8, c8, rfl, s8, -, g8⟩
    replace s7 := Lib.hid (s7.out.keep g8)
    replace s8 := Lib.hid s8
    have B8' : Below w0.heap.size w0 w8 := (by repeat (first | exact Below.refl _ _ | assumption | refine bel_drew ?_ | refine bel_drewN ?_ _ | refine bel_alloc ?_ _ | refine bel_set ?_ (by first | (dsimp only; omega) | (simp; done) | (simp; omega)) _ | refine bel_trans ?_ (by assumption)))
    go_wp2_with fail
    refine (K7.out _ _ _ _ _ _ _ s7.out s8.out).mono ?_
    rintro e w9 ⟨rfl, g9⟩
    go_wp2_with fail
    refine (law08_works _).mono ?_
    rintro e wa ⟨rfl, ga⟩
    have hfin := bel_trans' hB0.out (show Below w0.heap.size w0 wa from bel_trans (bel_trans B8' g9) ga) HSZ.out
    go_wp2_with fail
    go_ret
    exact ⟨rfl, hfin⟩
end Go.Proofs.Ytfgfnfjeopjbgaa
