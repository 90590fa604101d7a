/-
  Layer 47: the walk of the law BoundMore.
-/
import Derived.Test.YtfgfnfjeopjbgaaBoundI
namespace Go.Proofs.Ytfgfnfjeopjbgaa
open Go.RowKit
set_option linter.unusedVariables false
attribute [local go_sem] drewN_alloc drewN_setCell

set_option maxRecDepth 100000 in
set_option maxHeartbeats 2000000 in
theorem law47_more_w (c : PBd.Case) (n0 n1 n2 n3 n4 : Int) (w : World) (h : ¬ c.right) :
    Calls Try.prog 3 #[caseV c, .agg #[.int .u8 n0, .int .u8 n1, .int .u8 n2, .int .u8 n3, .int .u8 n4]] w fun e w' => e = .returned (.bool true) ∧ Below w.heap.size w w' := by
  have K := fun W => bound_Right c W
  rw [decide_eq_false h] at K
  clear h
  unfold caseV caseBox at K
  unfold caseV
  obtain ⟨ch, q, cl, wi, ah⟩ := c
  dsimp only at *
  replace K := Lib.hid K
  go_enter Try.func3, Try.ntmps3
  go_wp2_with fail
  refine (K.out _).mono ?_
  rintro e w1 ⟨rfl, rfl⟩
  go_wp2_with fail
  refine (law47_works _).mono ?_
  rintro e w2 ⟨rfl, h2⟩
  go_wp2_with fail
  go_ret
  exact ⟨rfl, (by repeat (first | exact Below.refl _ _ | assumption | refine bel_drew ?_ | refine bel_drewN ?_ _ | refine bel_alloc ?_ _ | refine bel_set ?_ (by first | (dsimp only; omega) | (simp; done) | (simp; omega)) _ | refine bel_trans ?_ (by assumption)))⟩

set_option maxRecDepth 100000 in
set_option maxHeartbeats 2000000 in
theorem law47_more_i (c : PBd.Case) (n0 n1 n2 n3 n4 : Int) (w : World) (h : c.right) (hi : 1152921504606846976 < c.wi) :
    Calls Try.prog 3 #[caseV c, .agg #[.int .u8 n0, .int .u8 n1, .int .u8 n2, .int .u8 n3, .int .u8 n4]] w fun e w' => e = .returned (.bool true) ∧ Below w.heap.size w w' := by
  have K := fun W => bound_Right c W
  rw [decide_eq_true h] at K
  clear h
  unfold caseV caseBox at K
  unfold caseV
  obtain ⟨ch, q, cl, wi, ah⟩ := c
  dsimp only at *
  replace K := Lib.hid K
  go_enter Try.func3, Try.ntmps3
  go_wp2_with fail
  refine (K.out _).mono ?_
  rintro e w1 ⟨rfl, rfl⟩
  go_wp2_with fail
  refine (law47_works _).mono ?_
  rintro e w2 ⟨rfl, h2⟩
  go_wp2_with fail
  go_ret
  exact ⟨rfl, (by repeat (first | exact Below.refl _ _ | assumption | refine bel_drew ?_ | refine bel_drewN ?_ _ | refine bel_alloc ?_ _ | refine bel_set ?_ (by first | (dsimp only; omega) | (simp; done) | (simp; omega)) _ | refine bel_trans ?_ (by assumption)))⟩

set_option maxRecDepth 100000 in
set_option maxHeartbeats 2000000 in
theorem law47_more_q (c : PBd.Case) (n0 n1 n2 n3 n4 : Int) (w : World) (h : c.right) (hi : c.wi ≤ 1152921504606846976) (hj : 1152921504606846976 < c.q) :
    Calls Try.prog 3 #[caseV c, .agg #[.int .u8 n0, .int .u8 n1, .int .u8 n2, .int .u8 n3, .int .u8 n4]] w fun e w' => e = .returned (.bool true) ∧ Below w.heap.size w w' := by
  have K := fun W => bound_Right c W
  rw [decide_eq_true h] at K
  clear h
  unfold caseV caseBox at K
  unfold caseV
  obtain ⟨ch, q, cl, wi, ah⟩ := c
  dsimp only at *
  replace K := Lib.hid K
  go_enter Try.func3, Try.ntmps3
  go_wp2_with fail
  refine (K.out _).mono ?_
  rintro e w1 ⟨rfl, rfl⟩
  go_wp2_with fail
  refine (law47_works _).mono ?_
  rintro e w2 ⟨rfl, h2⟩
  go_wp2_with fail
  go_ret
  exact ⟨rfl, (by repeat (first | exact Below.refl _ _ | assumption | refine bel_drew ?_ | refine bel_drewN ?_ _ | refine bel_alloc ?_ _ | refine bel_set ?_ (by first | (dsimp only; omega) | (simp; done) | (simp; omega)) _ | refine bel_trans ?_ (by assumption)))⟩

set_option maxRecDepth 100000 in
set_option maxHeartbeats 4000000 in
theorem law47_more_d (ch q cl wi ah n0 n1 n2 n3 n4 ch' q' cl' wi' ah' a b d e f g : Int) (p2 d2 f2 bq br : Bool) (w : World)
    (h1 : 1 ≤ ch ∧ ch ≤ 1048576) (h2 : 1 ≤ q ∧ q ≤ 1152921504606846976) (h3 : 1 ≤ cl ∧ cl ≤ 64) (h4 : 1 ≤ wi ∧ wi ≤ 1152921504606846976) (h5 : 0 ≤ ah ∧ ah ≤ 256)
    (g0 : 0 ≤ n0 ∧ n0 ≤ 255) (g1 : 0 ≤ n1 ∧ n1 ≤ 255) (g2 : 0 ≤ n2 ∧ n2 ≤ 255) (g3 : 0 ≤ n3 ∧ n3 ≤ 255) (g4 : 0 ≤ n4 ∧ n4 ≤ 255)
    (e0 : (if 1048576 < ch + n0 then 1048576 else ch + n0) = ch') (e1 : (if 64 < cl + n1 then 64 else cl + n1) = cl') (e2 : wi + n2 = wi') (e3 : (if 256 < ah + n3 then 256 else ah + n3) = ah') (e4 : (if q - n4 < 1 then 1 else q - n4) = q')
    (R : ∀ W, Calls Try.prog 16 #[caseV ⟨ch, q, cl, wi, ah⟩] W fun e w' => e = .returned (.bool true) ∧ W.alloc (caseBox ⟨ch, q, cl, wi, ah⟩) = w')
    (K1 : ∀ W, Calls Try.prog 18 #[caseV ⟨ch, q, cl, wi, ah⟩] W fun e w' => e = .returned (.tuple #[.int .i64 a, .bool p2]) ∧ Below W.heap.size W w')
    (K2 : ∀ W, Calls Try.prog 18 #[caseV ⟨ch', q', cl', wi', ah'⟩] W fun e w' => e = .returned (.tuple #[.int .i64 b, .bool true]) ∧ Below W.heap.size W w')
    (K3 : ∀ W, Calls Try.prog 19 #[caseV ⟨ch, q, cl, wi, ah⟩] W fun e w' => e = .returned (.tuple #[.int .i64 d, .bool d2]) ∧ Below W.heap.size W w')
    (K4 : ∀ W, Calls Try.prog 19 #[caseV ⟨ch', q', cl', wi', ah'⟩] W fun x w' => x = .returned (.tuple #[.int .i64 e, .bool bq]) ∧ Below W.heap.size W w')
    (K5 : ∀ W, Calls Try.prog 20 #[caseV ⟨ch, q, cl, wi, ah⟩] W fun e w' => e = .returned (.tuple #[.int .i64 f, .bool f2]) ∧ Below W.heap.size W w')
    (K6 : ∀ W, Calls Try.prog 20 #[caseV ⟨ch', q', cl', wi', ah'⟩] W fun e w' => e = .returned (.tuple #[.int .i64 g, .bool br]) ∧ Below W.heap.size W w')
    (l1 : a ≤ b) (l2 : bq = true → d ≤ e) (l3 : br = true → f ≤ g) :
    Calls Try.prog 3 #[caseV ⟨ch, q, cl, wi, ah⟩, .agg #[.int .u8 n0, .int .u8 n1, .int .u8 n2, .int .u8 n3, .int .u8 n4]] w fun e w' => e = .returned (.bool true) ∧ Below w.heap.size w w' := by
  unfold caseV at *
  unfold caseBox at R
  dsimp only at *
  replace R := Lib.hid R
  replace K1 := Lib.hid K1
  replace K2 := Lib.hid K2
  replace K3 := Lib.hid K3
  replace K4 := Lib.hid K4
  replace K5 := Lib.hid K5
  replace K6 := Lib.hid K6
  go_enter Try.func3, Try.ntmps3
  go_wp2_with fail
  refine (R.out _).mono ?_
  rintro e w1 ⟨rfl, rfl⟩
  go_wp2_with fail
  clear e0 e1 e2 e3 e4 h1 h2 h3 h4 h5 g0 g1 g2 g3 g4
  refine (K1.out _).mono ?_
  rintro x w1 ⟨rfl, k1⟩
  have c1_0 := cell_after (a := ⟨w.heap.size, 0, none⟩) (v := .int .i64 ch) k1 (by first | (simp; done) | (simp; omega)) (by simp [go_sem])
  have c1_1 := cell_after (a := ⟨w.heap.size, 1, none⟩) (v := .int .i64 q) k1 (by first | (simp; done) | (simp; omega)) (by simp [go_sem])
  have c1_2 := cell_after (a := ⟨w.heap.size, 2, none⟩) (v := .int .i64 cl) k1 (by first | (simp; done) | (simp; omega)) (by simp [go_sem])
  have c1_3 := cell_after (a := ⟨w.heap.size, 3, none⟩) (v := .int .i64 wi) k1 (by first | (simp; done) | (simp; omega)) (by simp [go_sem])
  have c1_4 := cell_after (a := ⟨w.heap.size, 4, none⟩) (v := .int .i64 ah) k1 (by first | (simp; done) | (simp; omega)) (by simp [go_sem])
  have zc1 : w.heap.size < w1.heap.size := by have := k1.size; simp at this; omega
  have m1_0 := cell_after (a := ⟨w.heap.size + 1 + 1, 0, none⟩) (v := .int .i64 ch') k1 (by first | (simp; done) | (simp; omega)) (by simp [go_sem])
  have m1_1 := cell_after (a := ⟨w.heap.size + 1 + 1, 1, none⟩) (v := .int .i64 q') k1 (by first | (simp; done) | (simp; omega)) (by simp [go_sem])
  have m1_2 := cell_after (a := ⟨w.heap.size + 1 + 1, 2, none⟩) (v := .int .i64 cl') k1 (by first | (simp; done) | (simp; omega)) (by simp [go_sem])
  have m1_3 := cell_after (a := ⟨w.heap.size + 1 + 1, 3, none⟩) (v := .int .i64 wi') k1 (by first | (simp; done) | (simp; omega)) (by simp [go_sem])
  have m1_4 := cell_after (a := ⟨w.heap.size + 1 + 1, 4, none⟩) (v := .int .i64 ah') k1 (by first | (simp; done) | (simp; omega)) (by simp [go_sem])
  have zm1 : w.heap.size + 1 + 1 < w1.heap.size := by have := k1.size; simp at this; omega
  go_wp2_with fail
  refine (K2.out _).mono ?_
  rintro x w2 ⟨rfl, k2⟩
  have c2_0 := cell_after k2 zc1 c1_0
  have c2_1 := cell_after k2 zc1 c1_1
  have c2_2 := cell_after k2 zc1 c1_2
  have c2_3 := cell_after k2 zc1 c1_3
  have c2_4 := cell_after k2 zc1 c1_4
  have zc2 := Nat.lt_of_lt_of_le zc1 k2.size
  have m2_0 := cell_after k2 zm1 m1_0
  have m2_1 := cell_after k2 zm1 m1_1
  have m2_2 := cell_after k2 zm1 m1_2
  have m2_3 := cell_after k2 zm1 m1_3
  have m2_4 := cell_after k2 zm1 m1_4
  have zm2 := Nat.lt_of_lt_of_le zm1 k2.size
  clear c1_0 c1_1 c1_2 c1_3 c1_4 zc1
  clear m1_0 m1_1 m1_2 m1_3 m1_4 zm1
  go_wp2_with fail
  refine (K3.out _).mono ?_
  rintro x w3 ⟨rfl, k3⟩
  have c3_0 := cell_after k3 zc2 c2_0
  have c3_1 := cell_after k3 zc2 c2_1
  have c3_2 := cell_after k3 zc2 c2_2
  have c3_3 := cell_after k3 zc2 c2_3
  have c3_4 := cell_after k3 zc2 c2_4
  have zc3 := Nat.lt_of_lt_of_le zc2 k3.size
  have m3_0 := cell_after k3 zm2 m2_0
  have m3_1 := cell_after k3 zm2 m2_1
  have m3_2 := cell_after k3 zm2 m2_2
  have m3_3 := cell_after k3 zm2 m2_3
  have m3_4 := cell_after k3 zm2 m2_4
  have zm3 := Nat.lt_of_lt_of_le zm2 k3.size
  clear c2_0 c2_1 c2_2 c2_3 c2_4 zc2
  clear m2_0 m2_1 m2_2 m2_3 m2_4 zm2
  go_wp2_with fail
  refine (K4.out _).mono ?_
  rintro x w4 ⟨rfl, k4⟩
  have c4_0 := cell_after k4 zc3 c3_0
  have c4_1 := cell_after k4 zc3 c3_1
  have c4_2 := cell_after k4 zc3 c3_2
  have c4_3 := cell_after k4 zc3 c3_3
  have c4_4 := cell_after k4 zc3 c3_4
  have zc4 := Nat.lt_of_lt_of_le zc3 k4.size
  have m4_0 := cell_after k4 zm3 m3_0
  have m4_1 := cell_after k4 zm3 m3_1
  have m4_2 := cell_after k4 zm3 m3_2
  have m4_3 := cell_after k4 zm3 m3_3
  have m4_4 := cell_after k4 zm3 m3_4
  have zm4 := Nat.lt_of_lt_of_le zm3 k4.size
  clear c3_0 c3_1 c3_2 c3_3 c3_4 zc3
  clear m3_0 m3_1 m3_2 m3_3 m3_4 zm3
  go_wp2_with fail
  refine (K5.out _).mono ?_
  rintro x w5 ⟨rfl, k5⟩
  have c5_0 := cell_after k5 zc4 c4_0
  have c5_1 := cell_after k5 zc4 c4_1
  have c5_2 := cell_after k5 zc4 c4_2
  have c5_3 := cell_after k5 zc4 c4_3
  have c5_4 := cell_after k5 zc4 c4_4
  have zc5 := Nat.lt_of_lt_of_le zc4 k5.size
  have m5_0 := cell_after k5 zm4 m4_0
  have m5_1 := cell_after k5 zm4 m4_1
  have m5_2 := cell_after k5 zm4 m4_2
  have m5_3 := cell_after k5 zm4 m4_3
  have m5_4 := cell_after k5 zm4 m4_4
  have zm5 := Nat.lt_of_lt_of_le zm4 k5.size
  clear c4_0 c4_1 c4_2 c4_3 c4_4 zc4
  clear m4_0 m4_1 m4_2 m4_3 m4_4 zm4
  go_wp2_with fail
  refine (K6.out _).mono ?_
  rintro x w6 ⟨rfl, k6⟩
  have c6_0 := cell_after k6 zc5 c5_0
  have c6_1 := cell_after k6 zc5 c5_1
  have c6_2 := cell_after k6 zc5 c5_2
  have c6_3 := cell_after k6 zc5 c5_3
  have c6_4 := cell_after k6 zc5 c5_4
  have zc6 := Nat.lt_of_lt_of_le zc5 k6.size
  have m6_0 := cell_after k6 zm5 m5_0
  have m6_1 := cell_after k6 zm5 m5_1
  have m6_2 := cell_after k6 zm5 m5_2
  have m6_3 := cell_after k6 zm5 m5_3
  have m6_4 := cell_after k6 zm5 m5_4
  have zm6 := Nat.lt_of_lt_of_le zm5 k6.size
  clear c5_0 c5_1 c5_2 c5_3 c5_4 zc5
  clear m5_0 m5_1 m5_2 m5_3 m5_4 zm5
  cases bq
  all_goals
    cases br
    all_goals
      simp only [true_implies, reduceCtorEq, false_implies] at l2 l3
      go_wp2_with fail
      refine (law47_works _).mono ?_
      rintro x w7 ⟨rfl, k7⟩
      go_wp2_with fail
      go_ret
      exact ⟨rfl, (by repeat (first | exact Below.refl _ _ | assumption | refine bel_drew ?_ | refine bel_drewN ?_ _ | refine bel_alloc ?_ _ | refine bel_set ?_ (by first | (dsimp only; omega) | (simp; done) | (simp; omega)) _ | refine bel_trans ?_ (by assumption)))⟩

theorem ite_min (a b : Int) : (if b < a then b else a) = min a b := by rw [Int.min_def]; split <;> split <;> omega
theorem ite_max (a b : Int) : (if a < b then b else a) = max a b := by rw [Int.max_def]; split <;> split <;> omega

theorem law47_BoundMore (c : PBd.Case) (n0 n1 n2 n3 n4 : Int) (w : World) (hq : c.q ≤ 9223372036854775807) (hw : c.wi ≤ 9223372036854775807)
    (g0 : 0 ≤ n0 ∧ n0 ≤ 255) (g1 : 0 ≤ n1 ∧ n1 ≤ 255) (g2 : 0 ≤ n2 ∧ n2 ≤ 255) (g3 : 0 ≤ n3 ∧ n3 ≤ 255) (g4 : 0 ≤ n4 ∧ n4 ≤ 255) :
    Calls Try.prog 3 #[caseV c, .agg #[.int .u8 n0, .int .u8 n1, .int .u8 n2, .int .u8 n3, .int .u8 n4]] w fun e w' => e = .returned (.bool true) ∧ Below w.heap.size w w' := by
  by_cases h : c.right
  · by_cases hi : c.wi ≤ 1152921504606846976
    · by_cases hj : c.q ≤ 1152921504606846976
      · have hr := h
        obtain ⟨ch, q, cl, wi, ah⟩ := c
        obtain ⟨r1, r2, r3, r4, r5, r6, r7, r8⟩ := h
        dsimp only at *
        have hm : PBd.Case.right ⟨min (ch + n0) 1048576, max (q - n4) 1, min (cl + n1) 64, wi + n2, min (ah + n3) 256⟩ := by
          unfold PBd.Case.right; dsimp only; omega
        obtain ⟨m1, m2, m3, m4⟩ := PBd.more hr hm (by dsimp only; omega) (by dsimp only; omega) (by dsimp only; omega) (by dsimp only; omega) (by dsimp only; omega)
        have K2 := fun W => bound_Drain ⟨min (ch + n0) 1048576, max (q - n4) 1, min (cl + n1) 64, wi + n2, min (ah + n3) 256⟩ W (by dsimp only; omega) (by dsimp only; omega)
        unfold toldV at K2
        rw [m1] at K2
        have R := fun W => bound_Right ⟨ch, q, cl, wi, ah⟩ W
        rw [decide_eq_true hr] at R
        exact law47_more_d ch q cl wi ah n0 n1 n2 n3 n4 _ _ _ _ _ _ _ _ _ _ _ _ _ _ _ _ w ⟨r1, r2⟩ ⟨r3, hj⟩ ⟨r4, r5⟩ ⟨r6, hi⟩ ⟨r7, r8⟩ g0 g1 g2 g3 g4
          (ite_min _ _) (ite_min _ _) rfl (ite_min _ _) (ite_max _ _) R
          (fun W => bound_Drain ⟨ch, q, cl, wi, ah⟩ W hq hw) K2
          (fun W => bound_Head ⟨ch, q, cl, wi, ah⟩ W hq hw) (fun W => bound_Head _ W (by dsimp only; omega) (by dsimp only; omega))
          (fun W => bound_Ticket ⟨ch, q, cl, wi, ah⟩ W hq hw) (fun W => bound_Ticket _ W (by dsimp only; omega) (by dsimp only; omega)) m2 m3 m4
      · exact law47_more_q c n0 n1 n2 n3 n4 w h hi (by omega)
    · exact law47_more_i c n0 n1 n2 n3 n4 w h (by omega)
  · exact law47_more_w c n0 n1 n2 n3 n4 w h
end Go.Proofs.Ytfgfnfjeopjbgaa
