/-
  The walk of the law DrainWhen.
-/
import Derived.Test.YtbgohgligponiaaDrainC
namespace Go.Proofs.Ytbgohgligponiaa
open Go.RowKit
set_option linter.unusedVariables false
attribute [local go_sem] drewN_alloc drewN_setCell

theorem law22_DrainWhen_bad (d b q : Int) (w : World) (hq : q < 1 ∨ 1048576 < q) :
    Calls Try.prog 8 #[.int .u16 d, .int .u16 b, .int .i64 q] w fun e w' => e = .returned (.bool true) ∧ Below w.heap.size w w' := by
  rcases hq with hq | hq
  · go_enter Try.func8, Try.ntmps8
    go_wp2_with fail
    refine (law22_works _).mono ?_
    rintro e w1 ⟨rfl, k1⟩
    go_wp2_with fail
    go_ret
    exact ⟨rfl, (by repeat (first | exact Below.refl _ _ | assumption | refine bel_drew ?_ | refine bel_drewN ?_ _ | refine bel_alloc ?_ _ | refine bel_set ?_ (by first | (dsimp only; omega) | (simp; done) | (simp; omega)) _ | refine bel_trans ?_ (by assumption)))⟩
  · have hq' : 1 ≤ q := by omega
    go_enter Try.func8, Try.ntmps8
    go_wp2_with fail
    refine (law22_works _).mono ?_
    rintro e w1 ⟨rfl, k1⟩
    go_wp2_with fail
    go_ret
    exact ⟨rfl, (by repeat (first | exact Below.refl _ _ | assumption | refine bel_drew ?_ | refine bel_drewN ?_ _ | refine bel_alloc ?_ _ | refine bel_set ?_ (by first | (dsimp only; omega) | (simp; done) | (simp; omega)) _ | refine bel_trans ?_ (by assumption)))⟩

/-- What holds at the head of the loop. -/
def SumRel (w : World) (n : Nat) (P : Nat → Int) (s i : Value) (wr : World) : Prop :=
  ∃ k : Nat, k ≤ n ∧ i = .int .i64 k ∧ s = .int .i64 (P k) ∧ Below w.heap.size w wr

set_option maxHeartbeats 1000000 in
theorem law22_DrainWhen_big (d b q k a1 a2 L : Int) (xs : List Int) (P : Nat → Int) (w : World) (d0 : 0 ≤ d) (d1 : d ≤ 65535) (b0 : 0 ≤ b) (b1 : b ≤ 65535) (q0 : 1 ≤ q) (q1 : q ≤ 1048576)
    (k0 : 1 ≤ k) (k1 : k ≤ 65536) (ha1 : d < a1) (ha1' : a1 ≤ 131071) (ha2 : a2 ≤ d) (ha2' : 0 ≤ a2)
    (CK : Hid (∀ W, Calls Try.prog 36 #[.int .i64 d, .int .i64 q] W fun e w' => e = .returned (.tuple #[.int .i64 k, .bool true]) ∧ W = w'))
    (CA : Hid (∀ W, Calls Try.prog 37 #[.int .i64 (d + 1 + b), .int .i64 q, .int .i64 k] W fun e w' => e = .returned (.tuple #[.int .i64 a1, .bool true]) ∧ W = w'))
    (CB : Hid (∀ W, Calls Try.prog 37 #[.int .i64 (d + 1 + b), .int .i64 q, .int .i64 (k - 1)] W fun e w' => e = .returned (.tuple #[.int .i64 a2, .bool true]) ∧ W = w'))
    (CP : Hid (∀ W, Calls Try.prog 38 #[.int .i64 (d + 1 + b), .int .i64 q] W (GivesInts W xs)))
    (CL : Hid (∀ W, Calls Try.prog 39 #[.int .i64 (d + 1 + b), .int .i64 q] W fun e w' => e = .returned (.tuple #[.int .i64 L, .bool true]) ∧ W = w'))
    (hP0 : Hid (P 0 = 0)) (hPs : Hid (∀ j, j < xs.length → P (j + 1) = P j + xs.getD j 0 ∧ 0 ≤ P j ∧ P j ≤ 131071 ∧ 0 ≤ xs.getD j 0 ∧ xs.getD j 0 ≤ 131071)) (hL : 4096 < L) :
    Calls Try.prog 8 #[.int .u16 d, .int .u16 b, .int .i64 q] w fun e w' => e = .returned (.bool true) ∧ Below w.heap.size w w' := by
  go_enter Try.func8, Try.ntmps8
  go_wp2_with fail
  refine (CK.out _).mono ?_
  rintro e w1 ⟨rfl, rfl⟩
  go_wp2_with fail
  refine (CA.out _).mono ?_
  rintro e w1 ⟨rfl, rfl⟩
  go_wp2_with fail
  refine (CB.out _).mono ?_
  rintro e w1 ⟨rfl, rfl⟩
  go_wp2_with fail
  refine (CP.out _).mono ?_
  rintro e w1 ⟨A, n, c, rfl, ia, kk1⟩
  have hnx := ia.1
  have IA := Lib.hid ia
  have HN := Lib.hid hnx
  have hn63 := ia.2.1
  clear ia hnx
  go_wp2_with fail
  go_loopw [15, 16] (fun s i wr => SumRel w1 n P s i wr) (fun s i _ => n - (intOf i).toNat)
  case atStart => exact ⟨0, Nat.zero_le _, rfl, by rw [hP0.out], Below.refl _ _⟩
  case round =>
    obtain ⟨j, hj, rfl, rfl, hbel⟩ := hrel
    by_cases hlt : (j : Int) < n
    · obtain ⟨bb, off, rfl, hbb, hcc⟩ := IA.out.2.2 (by omega)
      have x0 := (hbel.cell (p := ⟨bb, off + j, none⟩) hbb).trans (hcc j (by omega))
      obtain ⟨p1, p2, p3, p4, p5⟩ := hPs.out j (by rw [HN.out]; omega)
      have PP := Lib.hid p1
      have j1 : (0 : Int) ≤ (j : Int) := by omega
      clear hcc p1
      generalize xs.getD j 0 = X at *
      go_wp2_with fail
      go_roundw
      case rel => exact ⟨j + 1, by omega, by go_num, by rw [PP.out], hbel⟩
      case measure => simp [intOf]; omega
    · obtain rfl : j = n := by omega
      clear IA hPs hP0
      go_wp2_with fail
      refine (CL.out _).mono ?_
      rintro e w2 ⟨rfl, rfl⟩
      go_wp2_with fail
      refine (law22_works _).mono ?_
      rintro e w3 ⟨rfl, kk3⟩
      go_wp2_with fail
      go_ret
      exact ⟨rfl, bel_trans kk1 (bel_trans hbel kk3)⟩

set_option maxHeartbeats 1000000 in
theorem law22_DrainWhen_small (d b q k a1 a2 L : Int) (xs : List Int) (P : Nat → Int) (w : World) (d0 : 0 ≤ d) (d1 : d ≤ 65535) (b0 : 0 ≤ b) (b1 : b ≤ 65535) (q0 : 1 ≤ q) (q1 : q ≤ 1048576)
    (k0 : 1 ≤ k) (k1 : k ≤ 65536) (ha1 : d < a1) (ha1' : a1 ≤ 131071) (ha2 : a2 ≤ d) (ha2' : 0 ≤ a2)
    (CK : Hid (∀ W, Calls Try.prog 36 #[.int .i64 d, .int .i64 q] W fun e w' => e = .returned (.tuple #[.int .i64 k, .bool true]) ∧ W = w'))
    (CA : Hid (∀ W, Calls Try.prog 37 #[.int .i64 (d + 1 + b), .int .i64 q, .int .i64 k] W fun e w' => e = .returned (.tuple #[.int .i64 a1, .bool true]) ∧ W = w'))
    (CB : Hid (∀ W, Calls Try.prog 37 #[.int .i64 (d + 1 + b), .int .i64 q, .int .i64 (k - 1)] W fun e w' => e = .returned (.tuple #[.int .i64 a2, .bool true]) ∧ W = w'))
    (CP : Hid (∀ W, Calls Try.prog 38 #[.int .i64 (d + 1 + b), .int .i64 q] W (GivesInts W xs)))
    (CL : Hid (∀ W, Calls Try.prog 39 #[.int .i64 (d + 1 + b), .int .i64 q] W fun e w' => e = .returned (.tuple #[.int .i64 L, .bool true]) ∧ W = w'))
    (hP0 : Hid (P 0 = 0)) (hPs : Hid (∀ j, j < xs.length → P (j + 1) = P j + xs.getD j 0 ∧ 0 ≤ P j ∧ P j ≤ 131071 ∧ 0 ≤ xs.getD j 0 ∧ xs.getD j 0 ≤ 131071)) (hL : L ≤ 4096) (hPn : Hid (P xs.length = d + 1 + b)) (hLn : Hid ((xs.length : Int) = L)) :
    Calls Try.prog 8 #[.int .u16 d, .int .u16 b, .int .i64 q] w fun e w' => e = .returned (.bool true) ∧ Below w.heap.size w w' := by
  go_enter Try.func8, Try.ntmps8
  go_wp2_with fail
  refine (CK.out _).mono ?_
  rintro e w1 ⟨rfl, rfl⟩
  go_wp2_with fail
  refine (CA.out _).mono ?_
  rintro e w1 ⟨rfl, rfl⟩
  go_wp2_with fail
  refine (CB.out _).mono ?_
  rintro e w1 ⟨rfl, rfl⟩
  go_wp2_with fail
  refine (CP.out _).mono ?_
  rintro e w1 ⟨A, n, c, rfl, ia, kk1⟩
  have hnx := ia.1
  have IA := Lib.hid ia
  have HN := Lib.hid hnx
  have hn63 := ia.2.1
  clear ia hnx
  go_wp2_with fail
  go_loopw [15, 16] (fun s i wr => SumRel w1 n P s i wr) (fun s i _ => n - (intOf i).toNat)
  case atStart => exact ⟨0, Nat.zero_le _, rfl, by rw [hP0.out], Below.refl _ _⟩
  case round =>
    obtain ⟨j, hj, rfl, rfl, hbel⟩ := hrel
    by_cases hlt : (j : Int) < n
    · obtain ⟨bb, off, rfl, hbb, hcc⟩ := IA.out.2.2 (by omega)
      have x0 := (hbel.cell (p := ⟨bb, off + j, none⟩) hbb).trans (hcc j (by omega))
      obtain ⟨p1, p2, p3, p4, p5⟩ := hPs.out j (by rw [HN.out]; omega)
      have PP := Lib.hid p1
      have j1 : (0 : Int) ≤ (j : Int) := by omega
      clear hcc p1
      generalize xs.getD j 0 = X at *
      go_wp2_with fail
      go_roundw
      case rel => exact ⟨j + 1, by omega, by go_num, by rw [PP.out], hbel⟩
      case measure => simp [intOf]; omega
    · obtain rfl : j = n := by omega
      clear IA hPs hP0
      have e1 : (P j == d + 1 + b) = true := by have := hPn.out; rw [HN.out] at this; simpa using this
      have e2 : ((j : Int) == L) = true := by have := hLn.out; rw [HN.out] at this; simpa using this
      go_wp2_with fail
      refine (CL.out _).mono ?_
      rintro e w2 ⟨rfl, rfl⟩
      go_wp2_with fail
      refine (law22_works _).mono ?_
      rintro e w3 ⟨rfl, kk3⟩
      go_wp2_with fail
      go_ret
      exact ⟨rfl, bel_trans kk1 (bel_trans hbel kk3)⟩

theorem law22_DrainWhen (d b q : Int) (w : World) (d0 : 0 ≤ d) (d1 : d ≤ 65535) (b0 : 0 ≤ b) (b1 : b ≤ 65535) (hq : -9223372036854775808 ≤ q ∧ q ≤ 9223372036854775807) :
    Calls Try.prog 8 #[.int .u16 d, .int .u16 b, .int .i64 q] w fun e w' => e = .returned (.bool true) ∧ Below w.heap.size w w' := by
  by_cases hb : q < 1 ∨ 1048576 < q
  · exact law22_DrainWhen_bad d b q w hb
  · have q0 : 1 ≤ q := by omega
    have q1 : q ≤ 1048576 := by omega
    have hd := Int.mul_ediv_add_emod d q
    have m0 : 0 ≤ d % q := Int.emod_nonneg _ (by omega)
    have m1 : d % q < q := Int.emod_lt_of_pos _ (by omega)
    have e0 : 0 ≤ d / q := Int.ediv_nonneg d0 (by omega)
    have e1 : d / q ≤ d := Int.ediv_le_self q d0
    have hk : PD.ticks d q = (d / q + 1, true) := by rw [PD.ticks_val d0 (by omega) q0, if_neg (by omega)]
    have mm1 : PD.may (d + 1 + b) q (d / q + 1) = true := (PD.may_iff _ _ _).2 (by omega)
    have mm2 : PD.may (d + 1 + b) q (d / q + 1 - 1) = true := (PD.may_iff _ _ _).2 (by omega)
    have ht1 : PD.taken (d + 1 + b) q (d / q + 1) = (min (q * (d / q + 1)) (d + 1 + b), true) := Prod.ext (PD.taken_min _ _ _ mm1 (by omega)) ((PD.taken_is _ _ _).trans mm1)
    have ht2 : PD.taken (d + 1 + b) q (d / q + 1 - 1) = (min (q * (d / q + 1 - 1)) (d + 1 + b), true) := Prod.ext (PD.taken_min _ _ _ mm2 (by omega)) ((PD.taken_is _ _ _).trans mm2)
    have hx1 : q * (d / q + 1) = q * (d / q) + q := by rw [Int.mul_add, Int.mul_one]
    have hx2 : d / q + 1 - 1 = d / q := by omega
    have hp0 : 0 ≤ q * (d / q) := Int.mul_nonneg (by omega) e0
    have CK : Hid (∀ W, Calls Try.prog 36 #[.int .i64 d, .int .i64 q] W fun e w' => e = .returned (.tuple #[.int .i64 (d / q + 1), .bool true]) ∧ W = w') := fun W => by
      have := drain_Ticks d q W (by omega) hq; rwa [hk] at this
    have CA : Hid (∀ W, Calls Try.prog 37 #[.int .i64 (d + 1 + b), .int .i64 q, .int .i64 (d / q + 1)] W fun e w' => e = .returned (.tuple #[.int .i64 (min (q * (d / q + 1)) (d + 1 + b)), .bool true]) ∧ W = w') := fun W => by
      have := drain_Taken (d + 1 + b) q (d / q + 1) W (by omega) hq (by omega); rwa [ht1] at this
    have CB : Hid (∀ W, Calls Try.prog 37 #[.int .i64 (d + 1 + b), .int .i64 q, .int .i64 (d / q + 1 - 1)] W fun e w' => e = .returned (.tuple #[.int .i64 (min (q * (d / q + 1 - 1)) (d + 1 + b)), .bool true]) ∧ W = w') := fun W => by
      have := drain_Taken (d + 1 + b) q (d / q + 1 - 1) W (by omega) hq (by omega); rwa [ht2] at this
    obtain ⟨z1, z2, z3, z4, z5⟩ := PD.ceil_bd (w := d + 1 + b) (q := q) (by omega) q0
    have CL : Hid (∀ W, Calls Try.prog 39 #[.int .i64 (d + 1 + b), .int .i64 q] W fun e w' => e = .returned (.tuple #[.int .i64 (PN.ceil (d + 1 + b) q).1, .bool true]) ∧ W = w') := fun W => by
      have := drain_Last (d + 1 + b) q W (by omega) hq; rwa [z1] at this
    have CP : Hid (∀ W, Calls Try.prog 38 #[.int .i64 (d + 1 + b), .int .i64 q] W (GivesInts W (PD.plan (d + 1 + b) q))) := fun W => drain_Plan (d + 1 + b) q W (by omega) hq
    by_cases hL : (PN.ceil (d + 1 + b) q).1 ≤ 4096
    · have hv : PD.plan (d + 1 + b) q = PD.planL (d + 1 + b) q (PN.ceil (d + 1 + b) q).1.toNat := by unfold PD.plan; rw [if_pos ⟨z1, hL⟩]
      rw [hv] at CP
      refine law22_DrainWhen_small d b q _ _ _ _ _ (fun j => d + 1 + b - PD.rem (d + 1 + b) q j) w d0 d1 b0 b1 q0 q1 (by omega) (by omega) ?_ ?_ ?_ ?_ CK CA CB CP CL ?_ ?_ hL ?_ ?_
      · rw [hx1]; omega
      · omega
      · rw [hx2]; omega
      · rw [hx2]; omega
      · show d + 1 + b - PD.rem (d + 1 + b) q 0 = 0
        simp [PD.rem]
      · intro j hj
        rw [PD.planL_len] at hj
        rw [PD.planL_get hj]
        have r1 := PD.rem_bd (w := d + 1 + b) (q := q) (by omega) q0 j
        have r2 := PD.el_bd (w := d + 1 + b) (q := q) (by omega) q0 j
        have r3 : PD.rem (d + 1 + b) q (j + 1) = PD.rem (d + 1 + b) q j - PD.el (d + 1 + b) q j := rfl
        refine ⟨?_, ?_, ?_, ?_, ?_⟩ <;> omega
      · show d + 1 + b - PD.rem (d + 1 + b) q _ = d + 1 + b
        rw [PD.planL_len, PD.rem_end (by omega) q0]; omega
      · show ((PD.planL _ _ _).length : Int) = _
        rw [PD.planL_len, Int.toNat_of_nonneg z2]
    · have hv : PD.plan (d + 1 + b) q = [] := by unfold PD.plan; rw [if_neg (by omega)]
      rw [hv] at CP
      refine law22_DrainWhen_big d b q _ _ _ _ _ (fun _ => 0) w d0 d1 b0 b1 q0 q1 (by omega) (by omega) ?_ ?_ ?_ ?_ CK CA CB CP CL ?_ ?_ (by omega)
      · rw [hx1]; omega
      · omega
      · rw [hx2]; omega
      · rw [hx2]; omega
      · exact rfl
      · intro j hj; exact absurd hj (by simp)
end Go.Proofs.Ytbgohgligponiaa
