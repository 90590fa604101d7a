/-
  Walks of layer 15: Find and Run.
-/
import Derived.Test.YtbgohgligponiaaDoorPlainPhase
import Derived.Test.YtbgohgligponiaaDoorBase3
import Derived.Test.YtbgohgligponiaaDoorProg
import Derived.Test.YtbgohgligponiaaDoorPhaseA
namespace Go.Proofs.YtbgohgligponiaaDoor
open Go.RowKit
set_option linter.unusedVariables false
attribute [local go_sem] drewN_alloc drewN_setCell

theorem lbc (a b : List UInt8) : (a == b) = (b == a) := by
  rw [Bool.eq_iff_iff, beq_iff_eq, beq_iff_eq]; exact eq_comm

set_option maxHeartbeats 1000000 in
theorem slices_Index (s : ByteArray) (w : World) (ht : Tab w) : Calls Tryd.prog 18 #[.slice (some ⟨0, 0, none⟩) 4 4, .string s] w fun e w' => e = .returned (.int .i64 (PH.find s)) ∧ w = w' := by
  obtain ⟨t0, t1, t2, t3, t4⟩ := ht
  cases h0 : (s.toList == PH.n0.toList)
  case true =>
    rw [show PH.find s = 0 by unfold PH.find; rw [if_pos h0]]
    go_enter Tryd.func18, Tryd.ntmps18
    go_wp2_with fail
    refine wp_loop_rounds 5 ?_
    rw [rounds_succ]
    go_wp2_with fail
    go_ret
    exact ⟨rfl, rfl⟩
  case false =>
    cases h1 : (s.toList == PH.n1.toList)
    case true =>
      rw [show PH.find s = 1 by unfold PH.find; rw [if_neg (by rw [h0]; exact Bool.noConfusion), if_pos h1]]
      go_enter Tryd.func18, Tryd.ntmps18
      go_wp2_with fail
      refine wp_loop_rounds 5 ?_
      rw [rounds_succ]
      go_wp2_with fail
      rw [rounds_succ]
      go_wp2_with fail
      go_ret
      exact ⟨rfl, rfl⟩
    case false =>
      cases h2 : (s.toList == PH.n2.toList)
      case true =>
        rw [show PH.find s = 2 by unfold PH.find; rw [if_neg (by rw [h0]; exact Bool.noConfusion), if_neg (by rw [h1]; exact Bool.noConfusion), if_pos h2]]
        go_enter Tryd.func18, Tryd.ntmps18
        go_wp2_with fail
        refine wp_loop_rounds 5 ?_
        rw [rounds_succ]
        go_wp2_with fail
        rw [rounds_succ]
        go_wp2_with fail
        rw [rounds_succ]
        go_wp2_with fail
        go_ret
        exact ⟨rfl, rfl⟩
      case false =>
        cases h3 : (s.toList == PH.n3.toList)
        case true =>
          rw [show PH.find s = 3 by unfold PH.find; rw [if_neg (by rw [h0]; exact Bool.noConfusion), if_neg (by rw [h1]; exact Bool.noConfusion), if_neg (by rw [h2]; exact Bool.noConfusion), if_pos h3]]
          go_enter Tryd.func18, Tryd.ntmps18
          go_wp2_with fail
          refine wp_loop_rounds 5 ?_
          rw [rounds_succ]
          go_wp2_with fail
          rw [rounds_succ]
          go_wp2_with fail
          rw [rounds_succ]
          go_wp2_with fail
          rw [rounds_succ]
          go_wp2_with fail
          go_ret
          exact ⟨rfl, rfl⟩
        case false =>
          skip
          rw [show PH.find s = -1 by unfold PH.find; rw [if_neg (by rw [h0]; exact Bool.noConfusion), if_neg (by rw [h1]; exact Bool.noConfusion), if_neg (by rw [h2]; exact Bool.noConfusion), if_neg (by rw [h3]; exact Bool.noConfusion)]]
          go_enter Tryd.func18, Tryd.ntmps18
          go_wp2_with fail
          refine wp_loop_rounds 5 ?_
          rw [rounds_succ]
          go_wp2_with fail
          rw [rounds_succ]
          go_wp2_with fail
          rw [rounds_succ]
          go_wp2_with fail
          rw [rounds_succ]
          go_wp2_with fail
          rw [rounds_succ]
          go_wp2_with fail
          go_ret
          exact ⟨rfl, rfl⟩

theorem phase_Find (s : ByteArray) (w : World) (ht : Tab w) : Calls Tryd.prog 7 #[.string s] w fun e w' => e = .returned (.int .i64 (PH.find s)) ∧ w = w' := by
  have t4 := ht.2.2.2.2
  go_enter Tryd.func7, Tryd.ntmps7
  go_wp2_with fail
  refine (slices_Index s _ ht).mono ?_
  rintro e w1 ⟨rfl, rfl⟩
  go_wp2_with fail
  go_ret
  exact ⟨rfl, rfl⟩

set_option maxHeartbeats 1000000 in
theorem ref15_Find (s : ByteArray) (w : World) : Calls Tryd.prog 8 #[.string s] w fun e w' => e = .returned (.int .i64 (PH.find s)) ∧ Below w.heap.size w w' := by
  have c0 : ∀ W, Calls Tryd.prog 13 #[.int .i64 0] W fun e w' => e = .returned (.string PH.n0) ∧ Below W.heap.size W w' := fun W => ref15_Name 0 W
  have c1 : ∀ W, Calls Tryd.prog 13 #[.int .i64 1] W fun e w' => e = .returned (.string PH.n1) ∧ Below W.heap.size W w' := fun W => ref15_Name 1 W
  have c2 : ∀ W, Calls Tryd.prog 13 #[.int .i64 2] W fun e w' => e = .returned (.string PH.n2) ∧ Below W.heap.size W w' := fun W => ref15_Name 2 W
  have c3 : ∀ W, Calls Tryd.prog 13 #[.int .i64 3] W fun e w' => e = .returned (.string PH.n3) ∧ Below W.heap.size W w' := fun W => ref15_Name 3 W
  have C0 := Lib.hid c0
  have C1 := Lib.hid c1
  have C2 := Lib.hid c2
  have C3 := Lib.hid c3
  clear c0 c1 c2 c3
  cases h0 : (s.toList == PH.n0.toList)
  case true =>
    rw [show PH.find s = 0 by unfold PH.find; rw [if_pos h0]]
    rw [lbc] at h0
    go_enter Tryd.func8, Tryd.ntmps8
    go_wp2_with fail
    refine wp_loop_rounds 5 ?_
    rw [rounds_succ]
    go_wp2_with fail
    refine (C0.out _).mono ?_
    rintro e w1 ⟨rfl, k1⟩
    go_wp2_with fail
    go_ret
    exact ⟨rfl, (by repeat (first | exact Below.refl _ _ | assumption | refine bel_drew ?_ | refine bel_drewN ?_ _ | refine bel_alloc ?_ _ | refine bel_set ?_ (by first | (dsimp only; omega) | (simp; done) | (simp; omega)) _ | refine bel_trans ?_ (by assumption)))⟩
  case false =>
    cases h1 : (s.toList == PH.n1.toList)
    case true =>
      rw [show PH.find s = 1 by unfold PH.find; rw [if_neg (by rw [h0]; exact Bool.noConfusion), if_pos h1]]
      rw [lbc] at h0
      rw [lbc] at h1
      go_enter Tryd.func8, Tryd.ntmps8
      go_wp2_with fail
      refine wp_loop_rounds 5 ?_
      rw [rounds_succ]
      go_wp2_with fail
      refine (C0.out _).mono ?_
      rintro e w1 ⟨rfl, k1⟩
      go_wp2_with fail
      rw [rounds_succ]
      go_wp2_with fail
      refine (C1.out _).mono ?_
      rintro e w2 ⟨rfl, k2⟩
      go_wp2_with fail
      go_ret
      exact ⟨rfl, (by repeat (first | exact Below.refl _ _ | assumption | refine bel_drew ?_ | refine bel_drewN ?_ _ | refine bel_alloc ?_ _ | refine bel_set ?_ (by first | (dsimp only; omega) | (simp; done) | (simp; omega)) _ | refine bel_trans ?_ (by assumption)))⟩
    case false =>
      cases h2 : (s.toList == PH.n2.toList)
      case true =>
        rw [show PH.find s = 2 by unfold PH.find; rw [if_neg (by rw [h0]; exact Bool.noConfusion), if_neg (by rw [h1]; exact Bool.noConfusion), if_pos h2]]
        rw [lbc] at h0
        rw [lbc] at h1
        rw [lbc] at h2
        go_enter Tryd.func8, Tryd.ntmps8
        go_wp2_with fail
        refine wp_loop_rounds 5 ?_
        rw [rounds_succ]
        go_wp2_with fail
        refine (C0.out _).mono ?_
        rintro e w1 ⟨rfl, k1⟩
        go_wp2_with fail
        rw [rounds_succ]
        go_wp2_with fail
        refine (C1.out _).mono ?_
        rintro e w2 ⟨rfl, k2⟩
        go_wp2_with fail
        rw [rounds_succ]
        go_wp2_with fail
        refine (C2.out _).mono ?_
        rintro e w3 ⟨rfl, k3⟩
        go_wp2_with fail
        go_ret
        exact ⟨rfl, (by repeat (first | exact Below.refl _ _ | assumption | refine bel_drew ?_ | refine bel_drewN ?_ _ | refine bel_alloc ?_ _ | refine bel_set ?_ (by first | (dsimp only; omega) | (simp; done) | (simp; omega)) _ | refine bel_trans ?_ (by assumption)))⟩
      case false =>
        cases h3 : (s.toList == PH.n3.toList)
        case true =>
          rw [show PH.find s = 3 by unfold PH.find; rw [if_neg (by rw [h0]; exact Bool.noConfusion), if_neg (by rw [h1]; exact Bool.noConfusion), if_neg (by rw [h2]; exact Bool.noConfusion), if_pos h3]]
          rw [lbc] at h0
          rw [lbc] at h1
          rw [lbc] at h2
          rw [lbc] at h3
          go_enter Tryd.func8, Tryd.ntmps8
          go_wp2_with fail
          refine wp_loop_rounds 5 ?_
          rw [rounds_succ]
          go_wp2_with fail
          refine (C0.out _).mono ?_
          rintro e w1 ⟨rfl, k1⟩
          go_wp2_with fail
          rw [rounds_succ]
          go_wp2_with fail
          refine (C1.out _).mono ?_
          rintro e w2 ⟨rfl, k2⟩
          go_wp2_with fail
          rw [rounds_succ]
          go_wp2_with fail
          refine (C2.out _).mono ?_
          rintro e w3 ⟨rfl, k3⟩
          go_wp2_with fail
          rw [rounds_succ]
          go_wp2_with fail
          refine (C3.out _).mono ?_
          rintro e w4 ⟨rfl, k4⟩
          go_wp2_with fail
          go_ret
          exact ⟨rfl, (by repeat (first | exact Below.refl _ _ | assumption | refine bel_drew ?_ | refine bel_drewN ?_ _ | refine bel_alloc ?_ _ | refine bel_set ?_ (by first | (dsimp only; omega) | (simp; done) | (simp; omega)) _ | refine bel_trans ?_ (by assumption)))⟩
        case false =>
          skip
          rw [show PH.find s = -1 by unfold PH.find; rw [if_neg (by rw [h0]; exact Bool.noConfusion), if_neg (by rw [h1]; exact Bool.noConfusion), if_neg (by rw [h2]; exact Bool.noConfusion), if_neg (by rw [h3]; exact Bool.noConfusion)]]
          rw [lbc] at h0
          rw [lbc] at h1
          rw [lbc] at h2
          rw [lbc] at h3
          go_enter Tryd.func8, Tryd.ntmps8
          go_wp2_with fail
          refine wp_loop_rounds 5 ?_
          rw [rounds_succ]
          go_wp2_with fail
          refine (C0.out _).mono ?_
          rintro e w1 ⟨rfl, k1⟩
          go_wp2_with fail
          rw [rounds_succ]
          go_wp2_with fail
          refine (C1.out _).mono ?_
          rintro e w2 ⟨rfl, k2⟩
          go_wp2_with fail
          rw [rounds_succ]
          go_wp2_with fail
          refine (C2.out _).mono ?_
          rintro e w3 ⟨rfl, k3⟩
          go_wp2_with fail
          rw [rounds_succ]
          go_wp2_with fail
          refine (C3.out _).mono ?_
          rintro e w4 ⟨rfl, k4⟩
          go_wp2_with fail
          rw [rounds_succ]
          go_wp2_with fail
          go_ret
          exact ⟨rfl, (by repeat (first | exact Below.refl _ _ | assumption | refine bel_drew ?_ | refine bel_drewN ?_ _ | refine bel_alloc ?_ _ | refine bel_set ?_ (by first | (dsimp only; omega) | (simp; done) | (simp; omega)) _ | refine bel_trans ?_ (by assumption)))⟩

/-- A slice of ints, each of which reads. -/
def IsInts (w : World) (a : Option Addr) (len cap : Nat) (F : Nat → Int) : Prop :=
  (a = none ∧ len = 0 ∧ cap = 0) ∨ ∃ b off, a = some ⟨b, off, none⟩ ∧ (0 < len → b < w.heap.size) ∧ len ≤ 9223372036854775807 ∧ ∀ i, i < len → w.cell? ⟨b, off + i, none⟩ = some (.int .i64 (F i)) ∧ -9223372036854775808 ≤ F i ∧ F i ≤ 9223372036854775807
theorem IsInts.keep {w w' : World} {a : Option Addr} {len cap : Nat} {F : Nat → Int} (h : IsInts w a len cap F) (hb : Below w.heap.size w w') : IsInts w' a len cap F := by
  rcases h with h | ⟨b, off, rfl, h1, h2, h3⟩
  · exact Or.inl h
  · refine Or.inr ⟨b, off, rfl, fun h => by have := h1 h; have := hb.size; omega, h2, fun i hi => ?_⟩
    exact ⟨(hb.cell (h1 (by omega))).trans (h3 i hi).1, (h3 i hi).2⟩

/-- What holds at the head of the loop. -/
def RunRel (F : Nat → Int) (p0 : Int) (len : Nat) (w : World) (p i : Value) (wr : World) : Prop :=
  ∃ (k : Nat) (q : Int), k ≤ len ∧ p = .int .i64 q ∧ i = .int .i64 k ∧ (-9223372036854775808 ≤ q ∧ q ≤ 9223372036854775807) ∧ (0 < k → 0 ≤ q ∧ q ≤ 3) ∧ PH.run F q k (len - k) = PH.run F p0 0 len ∧ Below w.heap.size w wr

set_option maxHeartbeats 2000000 in
theorem phase_Run (p : Int) (a : Option Addr) (len cap : Nat) (F : Nat → Int) (w : World) (bp : -9223372036854775808 ≤ p ∧ p ≤ 9223372036854775807) (hs : IsInts w a len cap F) :
    Calls Tryd.prog 16 #[.int .i64 p, .slice a len cap] w fun e w' => e = .returned (.tuple #[.int .i64 (PH.run F p 0 len).1, .int .i64 (PH.run F p 0 len).2]) ∧ Below w.heap.size w w' := by
  rcases hs with ⟨rfl, rfl, rfl⟩ | ⟨b, off, rfl, hbw, hm, hcell⟩
  · rw [show PH.run F p 0 0 = (p, 0) from rfl]
    by_cases h : p < 0 ∨ 3 < p
    · go_enter Tryd.func16, Tryd.ntmps16
      go_wp2_with fail
      refine wp_loop_rounds 1 ?_
      rw [rounds_succ]
      go_wp2_with fail
      refine (phase_is_no p _ h).mono ?_
      rintro e w1 ⟨rfl, rfl⟩
      go_wp2_with fail
      go_ret2
      exact ⟨rfl, (by repeat (first | exact Below.refl _ _ | assumption | refine bel_drew ?_ | refine bel_drewN ?_ _ | refine bel_alloc ?_ _ | refine bel_set ?_ (by first | (dsimp only; omega) | (simp; done) | (simp; omega)) _ | refine bel_trans ?_ (by assumption)))⟩
    · go_enter Tryd.func16, Tryd.ntmps16
      go_wp2_with fail
      refine wp_loop_rounds 1 ?_
      rw [rounds_succ]
      go_wp2_with fail
      refine (phase_is_yes p _ (by omega) (by omega)).mono ?_
      rintro e w1 ⟨rfl, rfl⟩
      go_wp2_with fail
      go_ret2
      exact ⟨rfl, (by repeat (first | exact Below.refl _ _ | assumption | refine bel_drew ?_ | refine bel_drewN ?_ _ | refine bel_alloc ?_ _ | refine bel_set ?_ (by first | (dsimp only; omega) | (simp; done) | (simp; omega)) _ | refine bel_trans ?_ (by assumption)))⟩
  · have HC := Lib.hid hcell
    clear hcell
    obtain ⟨R, hR⟩ : ∃ R, PH.run F p 0 len = R := ⟨_, rfl⟩
    have HR := Lib.hid hR
    rw [hR]
    clear hR
    go_enter Tryd.func16, Tryd.ntmps16
    go_wp2_with fail
    go_loopw [0, 12] (fun p' i wr => RunRel F p len w p' i wr) (fun _ i _ => len - (intOf i).toNat)
    case atStart => exact ⟨0, p, Nat.zero_le _, rfl, rfl, bp, by omega, rfl, (by repeat (first | exact Below.refl _ _ | assumption | refine bel_drew ?_ | refine bel_drewN ?_ _ | refine bel_alloc ?_ _ | refine bel_set ?_ (by first | (dsimp only; omega) | (simp; done) | (simp; omega)) _ | refine bel_trans ?_ (by assumption)))⟩
    case round =>
      obtain ⟨k, q, hk, rfl, rfl, bq, hq, hrun, hbel⟩ := hrel
      have HRUN := Lib.hid hrun
      clear hrun
      by_cases hlt : (k : Int) < len
      · obtain ⟨x0, x1, x2⟩ := HC.out k (by omega)
        have hbw' := hbw (by omega)
        have xr : wr.cell? ⟨b, off + k, none⟩ = some (.int .i64 (F k)) := (hbel.cell hbw').trans x0
        have j1 : (0 : Int) ≤ (k : Int) := by omega
        clear x0
        have c1 := fun W => phase_Next q (F k) W bq ⟨x1, x2⟩
        by_cases h0 : (PH.next q (F k)).2 = 0
        · have hgo := PH.run_go (F := F) (show k < len by omega) h0
          have hbd := PH.next_bd q (F k)
          rw [h0] at c1
          generalize (PH.next q (F k)).1 = q' at *
          have C1 := Lib.hid c1
          have HGO := Lib.hid hgo
          clear c1 h0 hgo
          obtain ⟨d0, d1⟩ := hbd
          generalize F k = x at *
          go_wp2_with fail
          refine (C1.out _).mono ?_
          rintro e w1 ⟨rfl, k1⟩
          go_wp2_with fail
          go_roundw
          case rel => exact ⟨k + 1, q', by omega, rfl, by go_num, by omega, fun _ => ⟨d0, d1⟩, by rw [← HGO.out]; exact HRUN.out, (by repeat (first | exact Below.refl _ _ | assumption | refine bel_drew ?_ | refine bel_drewN ?_ _ | refine bel_alloc ?_ _ | refine bel_set ?_ (by first | (dsimp only; omega) | (simp; done) | (simp; omega)) _ | refine bel_trans ?_ (by assumption)))⟩
          case measure => simp [intOf]; omega
        · have hst := PH.run_stop (F := F) (show k < len by omega) h0
          have h0b : ((PH.next q (F k)).2 == 0) = false := by simpa using h0
          obtain rfl : R = (q, (k : Int)) := by rw [← HR.out, ← HRUN.out, hst]
          generalize (PH.next q (F k)).1 = q' at *
          generalize (PH.next q (F k)).2 = e' at *
          have C1 := Lib.hid c1
          clear c1 h0 hst
          generalize F k = x at *
          go_wp2_with fail
          refine (C1.out _).mono ?_
          rintro e w1 ⟨rfl, k1⟩
          go_wp2_with fail
          go_ret2
          exact ⟨rfl, (by repeat (first | exact Below.refl _ _ | assumption | refine bel_drew ?_ | refine bel_drewN ?_ _ | refine bel_alloc ?_ _ | refine bel_set ?_ (by first | (dsimp only; omega) | (simp; done) | (simp; omega)) _ | refine bel_trans ?_ (by assumption)))⟩
      · obtain rfl : k = len := by omega
        obtain rfl : R = (q, (k : Int)) := by rw [← HR.out, ← HRUN.out]; exact PH.run_end
        by_cases hb : q < 0 ∨ 3 < q
        · obtain rfl : k = 0 := by
            rcases Nat.eq_zero_or_pos k with h | h
            · exact h
            · have := hq h; omega
          go_wp2_with fail
          refine (phase_is_no q _ hb).mono ?_
          rintro e w1 ⟨rfl, rfl⟩
          go_wp2_with fail
          go_ret2
          exact ⟨rfl, (by repeat (first | exact Below.refl _ _ | assumption | refine bel_drew ?_ | refine bel_drewN ?_ _ | refine bel_alloc ?_ _ | refine bel_set ?_ (by first | (dsimp only; omega) | (simp; done) | (simp; omega)) _ | refine bel_trans ?_ (by assumption)))⟩
        · go_wp2_with fail
          refine (phase_is_yes q _ (by omega) (by omega)).mono ?_
          rintro e w1 ⟨rfl, rfl⟩
          go_wp2_with fail
          go_ret2
          exact ⟨rfl, (by repeat (first | exact Below.refl _ _ | assumption | refine bel_drew ?_ | refine bel_drewN ?_ _ | refine bel_alloc ?_ _ | refine bel_set ?_ (by first | (dsimp only; omega) | (simp; done) | (simp; omega)) _ | refine bel_trans ?_ (by assumption)))⟩

set_option maxHeartbeats 2000000 in
theorem ref15_Run (p : Int) (a : Option Addr) (len cap : Nat) (F : Nat → Int) (w : World) (bp : -9223372036854775808 ≤ p ∧ p ≤ 9223372036854775807) (hs : IsInts w a len cap F) :
    Calls Tryd.prog 17 #[.int .i64 p, .slice a len cap] w fun e w' => e = .returned (.tuple #[.int .i64 (PH.run F p 0 len).1, .int .i64 (PH.run F p 0 len).2]) ∧ Below w.heap.size w w' := by
  rcases hs with ⟨rfl, rfl, rfl⟩ | ⟨b, off, rfl, hbw, hm, hcell⟩
  · rw [show PH.run F p 0 0 = (p, 0) from rfl]
    go_enter Tryd.func17, Tryd.ntmps17
    go_wp2_with fail
    refine wp_loop_rounds 1 ?_
    rw [rounds_succ]
    go_wp2_with fail
    go_ret2
    exact ⟨rfl, (by repeat (first | exact Below.refl _ _ | assumption | refine bel_drew ?_ | refine bel_drewN ?_ _ | refine bel_alloc ?_ _ | refine bel_set ?_ (by first | (dsimp only; omega) | (simp; done) | (simp; omega)) _ | refine bel_trans ?_ (by assumption)))⟩
  · have HC := Lib.hid hcell
    clear hcell
    obtain ⟨R, hR⟩ : ∃ R, PH.run F p 0 len = R := ⟨_, rfl⟩
    have HR := Lib.hid hR
    rw [hR]
    clear hR
    go_enter Tryd.func17, Tryd.ntmps17
    go_wp2_with fail
    go_loopw [0, 6] (fun p' i wr => RunRel F p len w p' i wr) (fun _ i _ => len - (intOf i).toNat)
    case atStart => exact ⟨0, p, Nat.zero_le _, rfl, rfl, bp, by omega, rfl, (by repeat (first | exact Below.refl _ _ | assumption | refine bel_drew ?_ | refine bel_drewN ?_ _ | refine bel_alloc ?_ _ | refine bel_set ?_ (by first | (dsimp only; omega) | (simp; done) | (simp; omega)) _ | refine bel_trans ?_ (by assumption)))⟩
    case round =>
      obtain ⟨k, q, hk, rfl, rfl, bq, hq, hrun, hbel⟩ := hrel
      have HRUN := Lib.hid hrun
      clear hrun
      by_cases hlt : (k : Int) < len
      · obtain ⟨x0, x1, x2⟩ := HC.out k (by omega)
        have hbw' := hbw (by omega)
        have xr : wr.cell? ⟨b, off + k, none⟩ = some (.int .i64 (F k)) := (hbel.cell hbw').trans x0
        have j1 : (0 : Int) ≤ (k : Int) := by omega
        clear x0
        have c1 := fun W => ref15_Next q (F k) W bq ⟨x1, x2⟩
        by_cases h0 : (PH.next q (F k)).2 = 0
        · have hgo := PH.run_go (F := F) (show k < len by omega) h0
          have hbd := PH.next_bd q (F k)
          rw [h0] at c1
          generalize (PH.next q (F k)).1 = q' at *
          have C1 := Lib.hid c1
          have HGO := Lib.hid hgo
          clear c1 h0 hgo
          obtain ⟨d0, d1⟩ := hbd
          generalize F k = x at *
          go_wp2_with fail
          refine (C1.out _).mono ?_
          rintro e w1 ⟨rfl, rfl⟩
          go_wp2_with fail
          go_roundw
          case rel => exact ⟨k + 1, q', by omega, rfl, by go_num, by omega, fun _ => ⟨d0, d1⟩, by rw [← HGO.out]; exact HRUN.out, (by repeat (first | exact Below.refl _ _ | assumption | refine bel_drew ?_ | refine bel_drewN ?_ _ | refine bel_alloc ?_ _ | refine bel_set ?_ (by first | (dsimp only; omega) | (simp; done) | (simp; omega)) _ | refine bel_trans ?_ (by assumption)))⟩
          case measure => simp [intOf]; omega
        · have hst := PH.run_stop (F := F) (show k < len by omega) h0
          have h0b : ((PH.next q (F k)).2 == 0) = false := by simpa using h0
          obtain rfl : R = (q, (k : Int)) := by rw [← HR.out, ← HRUN.out, hst]
          generalize (PH.next q (F k)).1 = q' at *
          generalize (PH.next q (F k)).2 = e' at *
          have C1 := Lib.hid c1
          clear c1 h0 hst
          generalize F k = x at *
          go_wp2_with fail
          refine (C1.out _).mono ?_
          rintro e w1 ⟨rfl, rfl⟩
          go_wp2_with fail
          go_ret2
          exact ⟨rfl, (by repeat (first | exact Below.refl _ _ | assumption | refine bel_drew ?_ | refine bel_drewN ?_ _ | refine bel_alloc ?_ _ | refine bel_set ?_ (by first | (dsimp only; omega) | (simp; done) | (simp; omega)) _ | refine bel_trans ?_ (by assumption)))⟩
      · obtain rfl : k = len := by omega
        obtain rfl : R = (q, (k : Int)) := by rw [← HR.out, ← HRUN.out]; exact PH.run_end
        go_wp2_with fail
        go_ret2
        exact ⟨rfl, (by repeat (first | exact Below.refl _ _ | assumption | refine bel_drew ?_ | refine bel_drewN ?_ _ | refine bel_alloc ?_ _ | refine bel_set ?_ (by first | (dsimp only; omega) | (simp; done) | (simp; omega)) _ | refine bel_trans ?_ (by assumption)))⟩
end Go.Proofs.YtbgohgligponiaaDoor
