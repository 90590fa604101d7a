/-
  Walks of the laws of layer 15.
-/
import Derived.Test.YtbgohgligponiaaDoorPlainPhase
import Derived.Test.YtbgohgligponiaaDoorBase3
import Derived.Test.YtbgohgligponiaaDoorProg
import Derived.Test.YtbgohgligponiaaDoorPhaseB
import Derived.Deep.RegionHeld3
import Derived.Deep.QuietTactic
namespace Go.Proofs.YtbgohgligponiaaDoor
open Go.RowKit
set_option linter.unusedVariables false
attribute [local go_sem] drewN_alloc drewN_setCell

set_option maxHeartbeats 1000000 in
theorem law15_works (w : World) (ht : Tab w) : Calls Tryd.prog 9 #[] w fun e w' => e = .returned (.bool true) ∧ Below w.heap.size w w' := by
  have c1 : ∀ W b, IsInts W (some ⟨b, 0, none⟩) 3 3 (fun i => [1, 2, 1].getD i 0) → Calls Tryd.prog 16 #[.int .i64 0, .slice (some ⟨b, 0, none⟩) 3 3] W fun e w' => e = .returned (.tuple #[.int .i64 2, .int .i64 2]) ∧ Below W.heap.size W w' := fun W b h => by
    have := phase_Run 0 _ 3 3 (fun i => [1, 2, 1].getD i 0) W (by omega) h
    rwa [show PH.run (fun i => [1, 2, 1].getD i 0) 0 0 3 = (2, 2) by decide] at this
  have c2 : ∀ W, Calls Tryd.prog 11 #[.int .i64 0, .int .i64 4] W fun e w' => e = .returned (.tuple #[.int .i64 0, .int .i64 18]) ∧ Below W.heap.size W w' := fun W => by
    have := phase_Next 0 4 W (by omega) (by omega)
    rwa [show PH.next 0 4 = (0, 18) by decide] at this
  have c3 : ∀ W, Tab W → Calls Tryd.prog 10 #[.int .i64 3] W fun e w' => e = .returned (.string { data := #[119, 105, 112, 105, 110, 103] }) ∧ W = w' := fun W h => phase_Name 3 W h
  have c4 : ∀ W, Calls Tryd.prog 14 #[.int .i64 3, .int .i64 1] W fun e w' => e = .returned (.int .i64 2) ∧ W = w' := fun W => phase_Away 3 1 W (by omega) (by omega)
  have C1 := Lib.hid c1
  have C2 := Lib.hid c2
  have C3 := Lib.hid c3
  have C4 := Lib.hid c4
  have HT := Lib.hid ht
  have t4 := ht.2.2.2.2
  clear c1 c2 c3 c4 ht
  go_enter Tryd.func9, Tryd.ntmps9
  go_wp2_with fail
  refine (C1.out _ _ (Or.inr ⟨_, _, rfl, by simp, by omega, fun i hi => by match i, hi with | 0, _ => simp [go_sem] | 1, _ => simp [go_sem] | 2, _ => simp [go_sem]⟩)).mono ?_
  rintro e w1 ⟨rfl, k1⟩
  go_wp2_with fail
  refine (C2.out _).mono ?_
  rintro e w2 ⟨rfl, k2⟩
  have hb := (show Below w.heap.size w w2 from (by repeat (first | exact Below.refl _ _ | assumption | refine bel_drew ?_ | refine bel_drewN ?_ _ | refine bel_alloc ?_ _ | refine bel_set ?_ (by first | (dsimp only; omega) | (simp; done) | (simp; omega)) _ | refine bel_trans ?_ (by assumption))))
  have HT2 := Lib.hid (HT.out.keep hb t4)
  go_wp2_with fail
  refine (C3.out _ HT2.out).mono ?_
  rintro e w3 ⟨rfl, rfl⟩
  go_wp2_with fail
  refine (C4.out _).mono ?_
  rintro e w3 ⟨rfl, rfl⟩
  go_wp2_with fail
  go_ret
  exact ⟨rfl, (by repeat (first | exact Below.refl _ _ | assumption | refine bel_drew ?_ | refine bel_drewN ?_ _ | refine bel_alloc ?_ _ | refine bel_set ?_ (by first | (dsimp only; omega) | (simp; done) | (simp; omega)) _ | refine bel_trans ?_ (by assumption)))⟩

set_option maxHeartbeats 1000000 in
theorem law15_leads (p e : Int) (w : World) (bp : -9223372036854775808 ≤ p ∧ p ≤ 9223372036854775807) (be : -9223372036854775808 ≤ e ∧ e ≤ 9223372036854775807) (ht : Tab w) : Calls Tryd.prog 5 #[.int .i64 p, .int .i64 e] w fun e' w' => e' = .returned (.bool true) ∧ Below w.heap.size w w' := by
  have c1 := fun W => phase_Next p e W bp be
  have c2 := fun W => ref15_Next p e W bp be
  have c3 := fun W h => phase_Name p W h
  have c4 := fun W => ref15_Name p W
  have c5 := fun W => phase_Away p e W bp be
  have c6 := fun W => ref15_Away p e W bp be
  generalize (PH.next p e).1 = x at *
  generalize (PH.next p e).2 = y at *
  generalize PH.name p = z at *
  generalize PH.away p e = u at *
  have C1 := Lib.hid c1
  have C2 := Lib.hid c2
  have C3 := Lib.hid c3
  have C4 := Lib.hid c4
  have C5 := Lib.hid c5
  have C6 := Lib.hid c6
  have HT := Lib.hid ht
  have t4 := ht.2.2.2.2
  clear c1 c2 c3 c4 c5 c6 ht
  go_enter Tryd.func5, Tryd.ntmps5
  go_wp2_with fail
  refine (C1.out _).mono ?_
  rintro e w1 ⟨rfl, k1⟩
  go_wp2_with fail
  refine (C2.out _).mono ?_
  rintro e w2 ⟨rfl, rfl⟩
  have hb := (show Below w.heap.size w w1 from (by repeat (first | exact Below.refl _ _ | assumption | refine bel_drew ?_ | refine bel_drewN ?_ _ | refine bel_alloc ?_ _ | refine bel_set ?_ (by first | (dsimp only; omega) | (simp; done) | (simp; omega)) _ | refine bel_trans ?_ (by assumption))))
  have HT2 := Lib.hid (HT.out.keep hb t4)
  go_wp2_with fail
  refine (C3.out _ HT2.out).mono ?_
  rintro e w3 ⟨rfl, rfl⟩
  go_wp2_with fail
  refine (C4.out _).mono ?_
  rintro e w4 ⟨rfl, k4⟩
  go_wp2_with fail
  refine (C5.out _).mono ?_
  rintro e w5 ⟨rfl, rfl⟩
  go_wp2_with fail
  refine (C6.out _).mono ?_
  rintro e w5 ⟨rfl, rfl⟩
  go_wp2_with fail
  go_ret
  exact ⟨rfl, (by repeat (first | exact Below.refl _ _ | assumption | refine bel_drew ?_ | refine bel_drewN ?_ _ | refine bel_alloc ?_ _ | refine bel_set ?_ (by first | (dsimp only; omega) | (simp; done) | (simp; omega)) _ | refine bel_trans ?_ (by assumption)))⟩

theorem law15_runs (p : Int) (a : Option Addr) (len cap : Nat) (F : Nat → Int) (w : World) (bp : -9223372036854775808 ≤ p ∧ p ≤ 9223372036854775807) (hs : IsInts w a len cap F) : Calls Tryd.prog 6 #[.int .i64 p, .slice a len cap] w fun e w' => e = .returned (.bool true) ∧ Below w.heap.size w w' := by
  have c1 := fun W h => phase_Run p a len cap F W bp h
  have c2 := fun W h => ref15_Run p a len cap F W bp h
  generalize (PH.run F p 0 len).1 = x at *
  generalize (PH.run F p 0 len).2 = y at *
  have C1 := Lib.hid c1
  have C2 := Lib.hid c2
  have HS := Lib.hid hs
  clear c1 c2 hs
  go_enter Tryd.func6, Tryd.ntmps6
  go_wp2_with fail
  refine (C1.out _ HS.out).mono ?_
  rintro e w1 ⟨rfl, k1⟩
  go_wp2_with fail
  refine (C2.out _ (HS.out.keep k1)).mono ?_
  rintro e w2 ⟨rfl, k2⟩
  go_wp2_with fail
  go_ret
  exact ⟨rfl, (by repeat (first | exact Below.refl _ _ | assumption | refine bel_drew ?_ | refine bel_drewN ?_ _ | refine bel_alloc ?_ _ | refine bel_set ?_ (by first | (dsimp only; omega) | (simp; done) | (simp; omega)) _ | refine bel_trans ?_ (by assumption)))⟩

set_option maxHeartbeats 1000000 in
theorem law15_PhaseLeads (p e : Int) (a : Option Addr) (len cap : Nat) (F : Nat → Int) (s : ByteArray) (w : World) (bp : -9223372036854775808 ≤ p ∧ p ≤ 9223372036854775807) (be : -9223372036854775808 ≤ e ∧ e ≤ 9223372036854775807) (hs : IsInts w a len cap F) (ht : Tab w) :
    Calls Tryd.prog 3 #[.agg #[.int .i64 p, .int .i64 e], .slice a len cap, .string s] w fun e' w' => e' = .returned (.bool true) ∧ Below w.heap.size w w' := by
  have HS := Lib.hid hs
  have HT := Lib.hid ht
  have t4 := ht.2.2.2.2
  clear hs ht
  go_enter Tryd.func3, Tryd.ntmps3
  go_wp2_with fail
  go_quiet (fail)
  go_wp2_with fail
  refine (law15_leads p e _ bp be (HT.out.keep (n := w.heap.size) (by repeat (first | exact Below.refl _ _ | assumption | refine bel_drew ?_ | refine bel_drewN ?_ _ | refine bel_alloc ?_ _ | refine bel_set ?_ (by first | (dsimp only; omega) | (simp; done) | (simp; omega)) _ | refine bel_trans ?_ (by assumption))) t4)).mono ?_
  rintro e w1 ⟨rfl, k1⟩
  have hb := (show Below w.heap.size w w1 from (by repeat (first | exact Below.refl _ _ | assumption | refine bel_drew ?_ | refine bel_drewN ?_ _ | refine bel_alloc ?_ _ | refine bel_set ?_ (by first | (dsimp only; omega) | (simp; done) | (simp; omega)) _ | refine bel_trans ?_ (by assumption))))
  have HS1 := Lib.hid (HS.out.keep hb)
  have z1 := hb.size
  go_wp2_with fail
  refine (law15_runs p a len cap F _ bp HS1.out).mono ?_
  rintro e w2 ⟨rfl, k2⟩
  have hb2 := (show Below w.heap.size w w2 from (by repeat (first | exact Below.refl _ _ | assumption | refine bel_drew ?_ | refine bel_drewN ?_ _ | refine bel_alloc ?_ _ | refine bel_set ?_ (by first | (dsimp only; omega) | (simp; done) | (simp; omega)) _ | refine bel_trans ?_ (by assumption))))
  have HT2 := Lib.hid (HT.out.keep hb2 t4)
  go_wp2_with fail
  refine (phase_Find s _ HT2.out).mono ?_
  rintro e w3 ⟨rfl, rfl⟩
  go_wp2_with fail
  refine (ref15_Find s _).mono ?_
  rintro e w4 ⟨rfl, k4⟩
  have hb4 := (show Below w.heap.size w w4 from (by repeat (first | exact Below.refl _ _ | assumption | refine bel_drew ?_ | refine bel_drewN ?_ _ | refine bel_alloc ?_ _ | refine bel_set ?_ (by first | (dsimp only; omega) | (simp; done) | (simp; omega)) _ | refine bel_trans ?_ (by assumption))))
  have HT4 := Lib.hid (HT.out.keep hb4 t4)
  go_wp2_with fail
  refine (law15_works _ HT4.out).mono ?_
  rintro e w5 ⟨rfl, k5⟩
  go_wp2_with fail
  go_ret
  exact ⟨rfl, (by repeat (first | exact Below.refl _ _ | assumption | refine bel_drew ?_ | refine bel_drewN ?_ _ | refine bel_alloc ?_ _ | refine bel_set ?_ (by first | (dsimp only; omega) | (simp; done) | (simp; omega)) _ | refine bel_trans ?_ (by assumption)))⟩

set_option maxHeartbeats 1000000 in
theorem law15_PhaseRound_no (p : Int) (w : World) (bp : -9223372036854775808 ≤ p ∧ p ≤ 9223372036854775807) (h : p < 0 ∨ 3 < p) (ht : Tab w) :
    Calls Tryd.prog 4 #[.int .i64 p] w fun e w' => e = .returned (.bool true) ∧ Below w.heap.size w w' := by
  have c1 : ∀ W, Tab W → Calls Tryd.prog 10 #[.int .i64 p] W fun e w' => e = .returned (.string { data := #[] }) ∧ W = w' := fun W h' => by
    have := phase_Name p W h'
    rwa [PH.name_no h] at this
  have C1 := Lib.hid c1
  have HT := Lib.hid ht
  clear c1 ht
  rcases h with h | h
  · go_enter Tryd.func4, Tryd.ntmps4
    go_wp2_with fail
    refine (C1.out _ HT.out).mono ?_
    rintro e w1 ⟨rfl, rfl⟩
    go_wp2_with fail
    refine (law15_works _ HT.out).mono ?_
    rintro e w2 ⟨rfl, k2⟩
    go_wp2_with fail
    go_ret
    exact ⟨rfl, (by repeat (first | exact Below.refl _ _ | assumption | refine bel_drew ?_ | refine bel_drewN ?_ _ | refine bel_alloc ?_ _ | refine bel_set ?_ (by first | (dsimp only; omega) | (simp; done) | (simp; omega)) _ | refine bel_trans ?_ (by assumption)))⟩
  · have h0 : 0 ≤ p := by omega
    go_enter Tryd.func4, Tryd.ntmps4
    go_wp2_with fail
    refine (C1.out _ HT.out).mono ?_
    rintro e w1 ⟨rfl, rfl⟩
    go_wp2_with fail
    refine (law15_works _ HT.out).mono ?_
    rintro e w2 ⟨rfl, k2⟩
    go_wp2_with fail
    go_ret
    exact ⟨rfl, (by repeat (first | exact Below.refl _ _ | assumption | refine bel_drew ?_ | refine bel_drewN ?_ _ | refine bel_alloc ?_ _ | refine bel_set ?_ (by first | (dsimp only; omega) | (simp; done) | (simp; omega)) _ | refine bel_trans ?_ (by assumption)))⟩

set_option maxHeartbeats 2000000 in
theorem law15_PhaseRound0 (w : World) (ht : Tab w) :
    Calls Tryd.prog 4 #[.int .i64 0] w fun e w' => e = .returned (.bool true) ∧ Below w.heap.size w w' := by
  have c0 : ∀ W, Calls Tryd.prog 11 #[.int .i64 0, .int .i64 1] W fun e w' => e = .returned (.tuple #[.int .i64 1, .int .i64 0]) ∧ Below W.heap.size W w' := fun W => by
    have := phase_Next 0 1 W (by omega) (by omega)
    rwa [show PH.next 0 1 = (1, 0) by decide] at this
  have C0 := Lib.hid c0
  clear c0
  have c1 : ∀ W, Calls Tryd.prog 11 #[.int .i64 1, .int .i64 2] W fun e w' => e = .returned (.tuple #[.int .i64 2, .int .i64 0]) ∧ Below W.heap.size W w' := fun W => by
    have := phase_Next 1 2 W (by omega) (by omega)
    rwa [show PH.next 1 2 = (2, 0) by decide] at this
  have C1 := Lib.hid c1
  clear c1
  have c2 : ∀ W, Calls Tryd.prog 11 #[.int .i64 2, .int .i64 3] W fun e w' => e = .returned (.tuple #[.int .i64 3, .int .i64 0]) ∧ Below W.heap.size W w' := fun W => by
    have := phase_Next 2 3 W (by omega) (by omega)
    rwa [show PH.next 2 3 = (3, 0) by decide] at this
  have C2 := Lib.hid c2
  clear c2
  have c3 : ∀ W, Calls Tryd.prog 11 #[.int .i64 3, .int .i64 4] W fun e w' => e = .returned (.tuple #[.int .i64 0, .int .i64 0]) ∧ Below W.heap.size W w' := fun W => by
    have := phase_Next 3 4 W (by omega) (by omega)
    rwa [show PH.next 3 4 = (0, 0) by decide] at this
  have C3 := Lib.hid c3
  clear c3
  have c5 : ∀ W, Tab W → Calls Tryd.prog 10 #[.int .i64 0] W fun e w' => e = .returned (.string PH.n0) ∧ W = w' := fun W h => phase_Name 0 W h
  have c6 : ∀ W, Tab W → Calls Tryd.prog 7 #[.string PH.n0] W fun e w' => e = .returned (.int .i64 0) ∧ W = w' := fun W h => by
    have := phase_Find PH.n0 W h
    rwa [show PH.find PH.n0 = 0 by decide +kernel] at this
  have C5 := Lib.hid c5
  have C6 := Lib.hid c6
  have HT := Lib.hid ht
  have t4 := ht.2.2.2.2
  clear c5 c6 ht
  go_enter Tryd.func4, Tryd.ntmps4
  go_wp2_with fail
  refine wp_loop_rounds 5 ?_
  rw [rounds_succ]
  go_wp2_with fail
  refine (C0.out _).mono ?_
  rintro e w1 ⟨rfl, k1⟩
  go_wp2_with fail
  rw [rounds_succ]
  go_wp2_with fail
  refine (C1.out _).mono ?_
  rintro e w2 ⟨rfl, k2⟩
  go_wp2_with fail
  rw [rounds_succ]
  go_wp2_with fail
  refine (C2.out _).mono ?_
  rintro e w3 ⟨rfl, k3⟩
  go_wp2_with fail
  rw [rounds_succ]
  go_wp2_with fail
  refine (C3.out _).mono ?_
  rintro e w4 ⟨rfl, k4⟩
  go_wp2_with fail
  rw [rounds_succ]
  have hb := (show Below w.heap.size w w4 from (by repeat (first | exact Below.refl _ _ | assumption | refine bel_drew ?_ | refine bel_drewN ?_ _ | refine bel_alloc ?_ _ | refine bel_set ?_ (by first | (dsimp only; omega) | (simp; done) | (simp; omega)) _ | refine bel_trans ?_ (by assumption))))
  have HT4 := Lib.hid (HT.out.keep hb t4)
  go_wp2_with fail
  refine (C5.out _ HT4.out).mono ?_
  rintro e w5 ⟨rfl, rfl⟩
  go_wp2_with fail
  refine (C6.out _ HT4.out).mono ?_
  rintro e w5 ⟨rfl, rfl⟩
  go_wp2_with fail
  refine (law15_works _ HT4.out).mono ?_
  rintro e w6 ⟨rfl, k6⟩
  go_wp2_with fail
  go_ret
  exact ⟨rfl, (by repeat (first | exact Below.refl _ _ | assumption | refine bel_drew ?_ | refine bel_drewN ?_ _ | refine bel_alloc ?_ _ | refine bel_set ?_ (by first | (dsimp only; omega) | (simp; done) | (simp; omega)) _ | refine bel_trans ?_ (by assumption)))⟩

set_option maxHeartbeats 2000000 in
theorem law15_PhaseRound1 (w : World) (ht : Tab w) :
    Calls Tryd.prog 4 #[.int .i64 1] w fun e w' => e = .returned (.bool true) ∧ Below w.heap.size w w' := by
  have c0 : ∀ W, Calls Tryd.prog 11 #[.int .i64 1, .int .i64 2] W fun e w' => e = .returned (.tuple #[.int .i64 2, .int .i64 0]) ∧ Below W.heap.size W w' := fun W => by
    have := phase_Next 1 2 W (by omega) (by omega)
    rwa [show PH.next 1 2 = (2, 0) by decide] at this
  have C0 := Lib.hid c0
  clear c0
  have c1 : ∀ W, Calls Tryd.prog 11 #[.int .i64 2, .int .i64 3] W fun e w' => e = .returned (.tuple #[.int .i64 3, .int .i64 0]) ∧ Below W.heap.size W w' := fun W => by
    have := phase_Next 2 3 W (by omega) (by omega)
    rwa [show PH.next 2 3 = (3, 0) by decide] at this
  have C1 := Lib.hid c1
  clear c1
  have c2 : ∀ W, Calls Tryd.prog 11 #[.int .i64 3, .int .i64 4] W fun e w' => e = .returned (.tuple #[.int .i64 0, .int .i64 0]) ∧ Below W.heap.size W w' := fun W => by
    have := phase_Next 3 4 W (by omega) (by omega)
    rwa [show PH.next 3 4 = (0, 0) by decide] at this
  have C2 := Lib.hid c2
  clear c2
  have c3 : ∀ W, Calls Tryd.prog 11 #[.int .i64 0, .int .i64 1] W fun e w' => e = .returned (.tuple #[.int .i64 1, .int .i64 0]) ∧ Below W.heap.size W w' := fun W => by
    have := phase_Next 0 1 W (by omega) (by omega)
    rwa [show PH.next 0 1 = (1, 0) by decide] at this
  have C3 := Lib.hid c3
  clear c3
  have c5 : ∀ W, Tab W → Calls Tryd.prog 10 #[.int .i64 1] W fun e w' => e = .returned (.string PH.n1) ∧ W = w' := fun W h => phase_Name 1 W h
  have c6 : ∀ W, Tab W → Calls Tryd.prog 7 #[.string PH.n1] W fun e w' => e = .returned (.int .i64 1) ∧ W = w' := fun W h => by
    have := phase_Find PH.n1 W h
    rwa [show PH.find PH.n1 = 1 by decide +kernel] at this
  have C5 := Lib.hid c5
  have C6 := Lib.hid c6
  have HT := Lib.hid ht
  have t4 := ht.2.2.2.2
  clear c5 c6 ht
  go_enter Tryd.func4, Tryd.ntmps4
  go_wp2_with fail
  refine wp_loop_rounds 5 ?_
  rw [rounds_succ]
  go_wp2_with fail
  refine (C0.out _).mono ?_
  rintro e w1 ⟨rfl, k1⟩
  go_wp2_with fail
  rw [rounds_succ]
  go_wp2_with fail
  refine (C1.out _).mono ?_
  rintro e w2 ⟨rfl, k2⟩
  go_wp2_with fail
  rw [rounds_succ]
  go_wp2_with fail
  refine (C2.out _).mono ?_
  rintro e w3 ⟨rfl, k3⟩
  go_wp2_with fail
  rw [rounds_succ]
  go_wp2_with fail
  refine (C3.out _).mono ?_
  rintro e w4 ⟨rfl, k4⟩
  go_wp2_with fail
  rw [rounds_succ]
  have hb := (show Below w.heap.size w w4 from (by repeat (first | exact Below.refl _ _ | assumption | refine bel_drew ?_ | refine bel_drewN ?_ _ | refine bel_alloc ?_ _ | refine bel_set ?_ (by first | (dsimp only; omega) | (simp; done) | (simp; omega)) _ | refine bel_trans ?_ (by assumption))))
  have HT4 := Lib.hid (HT.out.keep hb t4)
  go_wp2_with fail
  refine (C5.out _ HT4.out).mono ?_
  rintro e w5 ⟨rfl, rfl⟩
  go_wp2_with fail
  refine (C6.out _ HT4.out).mono ?_
  rintro e w5 ⟨rfl, rfl⟩
  go_wp2_with fail
  refine (law15_works _ HT4.out).mono ?_
  rintro e w6 ⟨rfl, k6⟩
  go_wp2_with fail
  go_ret
  exact ⟨rfl, (by repeat (first | exact Below.refl _ _ | assumption | refine bel_drew ?_ | refine bel_drewN ?_ _ | refine bel_alloc ?_ _ | refine bel_set ?_ (by first | (dsimp only; omega) | (simp; done) | (simp; omega)) _ | refine bel_trans ?_ (by assumption)))⟩

set_option maxHeartbeats 2000000 in
theorem law15_PhaseRound2 (w : World) (ht : Tab w) :
    Calls Tryd.prog 4 #[.int .i64 2] w fun e w' => e = .returned (.bool true) ∧ Below w.heap.size w w' := by
  have c0 : ∀ W, Calls Tryd.prog 11 #[.int .i64 2, .int .i64 3] W fun e w' => e = .returned (.tuple #[.int .i64 3, .int .i64 0]) ∧ Below W.heap.size W w' := fun W => by
    have := phase_Next 2 3 W (by omega) (by omega)
    rwa [show PH.next 2 3 = (3, 0) by decide] at this
  have C0 := Lib.hid c0
  clear c0
  have c1 : ∀ W, Calls Tryd.prog 11 #[.int .i64 3, .int .i64 4] W fun e w' => e = .returned (.tuple #[.int .i64 0, .int .i64 0]) ∧ Below W.heap.size W w' := fun W => by
    have := phase_Next 3 4 W (by omega) (by omega)
    rwa [show PH.next 3 4 = (0, 0) by decide] at this
  have C1 := Lib.hid c1
  clear c1
  have c2 : ∀ W, Calls Tryd.prog 11 #[.int .i64 0, .int .i64 1] W fun e w' => e = .returned (.tuple #[.int .i64 1, .int .i64 0]) ∧ Below W.heap.size W w' := fun W => by
    have := phase_Next 0 1 W (by omega) (by omega)
    rwa [show PH.next 0 1 = (1, 0) by decide] at this
  have C2 := Lib.hid c2
  clear c2
  have c3 : ∀ W, Calls Tryd.prog 11 #[.int .i64 1, .int .i64 2] W fun e w' => e = .returned (.tuple #[.int .i64 2, .int .i64 0]) ∧ Below W.heap.size W w' := fun W => by
    have := phase_Next 1 2 W (by omega) (by omega)
    rwa [show PH.next 1 2 = (2, 0) by decide] at this
  have C3 := Lib.hid c3
  clear c3
  have c5 : ∀ W, Tab W → Calls Tryd.prog 10 #[.int .i64 2] W fun e w' => e = .returned (.string PH.n2) ∧ W = w' := fun W h => phase_Name 2 W h
  have c6 : ∀ W, Tab W → Calls Tryd.prog 7 #[.string PH.n2] W fun e w' => e = .returned (.int .i64 2) ∧ W = w' := fun W h => by
    have := phase_Find PH.n2 W h
    rwa [show PH.find PH.n2 = 2 by decide +kernel] at this
  have C5 := Lib.hid c5
  have C6 := Lib.hid c6
  have HT := Lib.hid ht
  have t4 := ht.2.2.2.2
  clear c5 c6 ht
  go_enter Tryd.func4, Tryd.ntmps4
  go_wp2_with fail
  refine wp_loop_rounds 5 ?_
  rw [rounds_succ]
  go_wp2_with fail
  refine (C0.out _).mono ?_
  rintro e w1 ⟨rfl, k1⟩
  go_wp2_with fail
  rw [rounds_succ]
  go_wp2_with fail
  refine (C1.out _).mono ?_
  rintro e w2 ⟨rfl, k2⟩
  go_wp2_with fail
  rw [rounds_succ]
  go_wp2_with fail
  refine (C2.out _).mono ?_
  rintro e w3 ⟨rfl, k3⟩
  go_wp2_with fail
  rw [rounds_succ]
  go_wp2_with fail
  refine (C3.out _).mono ?_
  rintro e w4 ⟨rfl, k4⟩
  go_wp2_with fail
  rw [rounds_succ]
  have hb := (show Below w.heap.size w w4 from (by repeat (first | exact Below.refl _ _ | assumption | refine bel_drew ?_ | refine bel_drewN ?_ _ | refine bel_alloc ?_ _ | refine bel_set ?_ (by first | (dsimp only; omega) | (simp; done) | (simp; omega)) _ | refine bel_trans ?_ (by assumption))))
  have HT4 := Lib.hid (HT.out.keep hb t4)
  go_wp2_with fail
  refine (C5.out _ HT4.out).mono ?_
  rintro e w5 ⟨rfl, rfl⟩
  go_wp2_with fail
  refine (C6.out _ HT4.out).mono ?_
  rintro e w5 ⟨rfl, rfl⟩
  go_wp2_with fail
  refine (law15_works _ HT4.out).mono ?_
  rintro e w6 ⟨rfl, k6⟩
  go_wp2_with fail
  go_ret
  exact ⟨rfl, (by repeat (first | exact Below.refl _ _ | assumption | refine bel_drew ?_ | refine bel_drewN ?_ _ | refine bel_alloc ?_ _ | refine bel_set ?_ (by first | (dsimp only; omega) | (simp; done) | (simp; omega)) _ | refine bel_trans ?_ (by assumption)))⟩

set_option maxHeartbeats 2000000 in
theorem law15_PhaseRound3 (w : World) (ht : Tab w) :
    Calls Tryd.prog 4 #[.int .i64 3] w fun e w' => e = .returned (.bool true) ∧ Below w.heap.size w w' := by
  have c0 : ∀ W, Calls Tryd.prog 11 #[.int .i64 3, .int .i64 4] W fun e w' => e = .returned (.tuple #[.int .i64 0, .int .i64 0]) ∧ Below W.heap.size W w' := fun W => by
    have := phase_Next 3 4 W (by omega) (by omega)
    rwa [show PH.next 3 4 = (0, 0) by decide] at this
  have C0 := Lib.hid c0
  clear c0
  have c1 : ∀ W, Calls Tryd.prog 11 #[.int .i64 0, .int .i64 1] W fun e w' => e = .returned (.tuple #[.int .i64 1, .int .i64 0]) ∧ Below W.heap.size W w' := fun W => by
    have := phase_Next 0 1 W (by omega) (by omega)
    rwa [show PH.next 0 1 = (1, 0) by decide] at this
  have C1 := Lib.hid c1
  clear c1
  have c2 : ∀ W, Calls Tryd.prog 11 #[.int .i64 1, .int .i64 2] W fun e w' => e = .returned (.tuple #[.int .i64 2, .int .i64 0]) ∧ Below W.heap.size W w' := fun W => by
    have := phase_Next 1 2 W (by omega) (by omega)
    rwa [show PH.next 1 2 = (2, 0) by decide] at this
  have C2 := Lib.hid c2
  clear c2
  have c3 : ∀ W, Calls Tryd.prog 11 #[.int .i64 2, .int .i64 3] W fun e w' => e = .returned (.tuple #[.int .i64 3, .int .i64 0]) ∧ Below W.heap.size W w' := fun W => by
    have := phase_Next 2 3 W (by omega) (by omega)
    rwa [show PH.next 2 3 = (3, 0) by decide] at this
  have C3 := Lib.hid c3
  clear c3
  have c5 : ∀ W, Tab W → Calls Tryd.prog 10 #[.int .i64 3] W fun e w' => e = .returned (.string PH.n3) ∧ W = w' := fun W h => phase_Name 3 W h
  have c6 : ∀ W, Tab W → Calls Tryd.prog 7 #[.string PH.n3] W fun e w' => e = .returned (.int .i64 3) ∧ W = w' := fun W h => by
    have := phase_Find PH.n3 W h
    rwa [show PH.find PH.n3 = 3 by decide +kernel] at this
  have C5 := Lib.hid c5
  have C6 := Lib.hid c6
  have HT := Lib.hid ht
  have t4 := ht.2.2.2.2
  clear c5 c6 ht
  go_enter Tryd.func4, Tryd.ntmps4
  go_wp2_with fail
  refine wp_loop_rounds 5 ?_
  rw [rounds_succ]
  go_wp2_with fail
  refine (C0.out _).mono ?_
  rintro e w1 ⟨rfl, k1⟩
  go_wp2_with fail
  rw [rounds_succ]
  go_wp2_with fail
  refine (C1.out _).mono ?_
  rintro e w2 ⟨rfl, k2⟩
  go_wp2_with fail
  rw [rounds_succ]
  go_wp2_with fail
  refine (C2.out _).mono ?_
  rintro e w3 ⟨rfl, k3⟩
  go_wp2_with fail
  rw [rounds_succ]
  go_wp2_with fail
  refine (C3.out _).mono ?_
  rintro e w4 ⟨rfl, k4⟩
  go_wp2_with fail
  rw [rounds_succ]
  have hb := (show Below w.heap.size w w4 from (by repeat (first | exact Below.refl _ _ | assumption | refine bel_drew ?_ | refine bel_drewN ?_ _ | refine bel_alloc ?_ _ | refine bel_set ?_ (by first | (dsimp only; omega) | (simp; done) | (simp; omega)) _ | refine bel_trans ?_ (by assumption))))
  have HT4 := Lib.hid (HT.out.keep hb t4)
  go_wp2_with fail
  refine (C5.out _ HT4.out).mono ?_
  rintro e w5 ⟨rfl, rfl⟩
  go_wp2_with fail
  refine (C6.out _ HT4.out).mono ?_
  rintro e w5 ⟨rfl, rfl⟩
  go_wp2_with fail
  refine (law15_works _ HT4.out).mono ?_
  rintro e w6 ⟨rfl, k6⟩
  go_wp2_with fail
  go_ret
  exact ⟨rfl, (by repeat (first | exact Below.refl _ _ | assumption | refine bel_drew ?_ | refine bel_drewN ?_ _ | refine bel_alloc ?_ _ | refine bel_set ?_ (by first | (dsimp only; omega) | (simp; done) | (simp; omega)) _ | refine bel_trans ?_ (by assumption)))⟩

theorem law15_PhaseRound (p : Int) (w : World) (bp : -9223372036854775808 ≤ p ∧ p ≤ 9223372036854775807) (ht : Tab w) :
    Calls Tryd.prog 4 #[.int .i64 p] w fun e w' => e = .returned (.bool true) ∧ Below w.heap.size w w' := by
  by_cases h : p < 0 ∨ 3 < p
  · exact law15_PhaseRound_no p w bp h ht
  · have hp : p = 0 ∨ p = 1 ∨ p = 2 ∨ p = 3 := by omega
    rcases hp with rfl | rfl | rfl | rfl
    · exact law15_PhaseRound0 w ht
    · exact law15_PhaseRound1 w ht
    · exact law15_PhaseRound2 w ht
    · exact law15_PhaseRound3 w ht
end Go.Proofs.YtbgohgligponiaaDoor
