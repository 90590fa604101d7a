/-
  Layer 47's example, and the walk of the law BoundParts.
-/
import Derived.Test.YtfgfnfjeopjbgaaBoundH
namespace Go.Proofs.Ytfgfnfjeopjbgaa
open Go.RowKit
set_option linter.unusedVariables false
attribute [local go_sem] drewN_alloc drewN_setCell

set_option maxRecDepth 100000 in
set_option maxHeartbeats 1000000 in
theorem law47_works (w : World) : Calls Try.prog 17 #[] w fun e w' => e = .returned (.bool true) ∧ Below w.heap.size w w' := by
  have c1 : ∀ W, Calls Try.prog 18 #[.agg #[.int .i64 3, .int .i64 1, .int .i64 2, .int .i64 1, .int .i64 0]] W fun e w' => e = .returned (.tuple #[.int .i64 4, .bool true]) ∧ Below W.heap.size W w' := fun W => by
    have := bound_Drain ⟨3, 1, 2, 1, 0⟩ W (by decide) (by decide)
    rwa [show PBd.drainV ⟨3, 1, 2, 1, 0⟩ = (4, true) by decide +kernel] at this
  have c2 : ∀ W, Calls Try.prog 19 #[.agg #[.int .i64 3, .int .i64 1, .int .i64 2, .int .i64 1, .int .i64 0]] W fun e w' => e = .returned (.tuple #[.int .i64 231, .bool true]) ∧ Below W.heap.size W w' := fun W => by
    have := bound_Head ⟨3, 1, 2, 1, 0⟩ W (by decide) (by decide)
    rwa [show PBd.headV ⟨3, 1, 2, 1, 0⟩ = (231, true) by decide +kernel] at this
  have c3 : ∀ W, Calls Try.prog 20 #[.agg #[.int .i64 3, .int .i64 1, .int .i64 2, .int .i64 1, .int .i64 0]] W fun e w' => e = .returned (.tuple #[.int .i64 231, .bool true]) ∧ Below W.heap.size W w' := fun W => by
    have := bound_Ticket ⟨3, 1, 2, 1, 0⟩ W (by decide) (by decide)
    rwa [show PBd.ticketV ⟨3, 1, 2, 1, 0⟩ = (231, true) by decide +kernel] at this
  have c4 : ∀ W, Calls Try.prog 16 #[.agg #[.int .i64 3, .int .i64 1, .int .i64 2, .int .i64 1, .int .i64 0]] W fun e w' => e = .returned (.bool true) ∧ W.alloc (.cells #[.int .i64 3, .int .i64 1, .int .i64 2, .int .i64 1, .int .i64 0] 23) = w' := fun W => bound_Right ⟨3, 1, 2, 1, 0⟩ W
  have c5 : ∀ W, Calls Try.prog 16 #[.agg #[.int .i64 0, .int .i64 0, .int .i64 0, .int .i64 0, .int .i64 0]] W fun e w' => e = .returned (.bool false) ∧ W.alloc (.cells #[.int .i64 0, .int .i64 0, .int .i64 0, .int .i64 0, .int .i64 0] 23) = w' := fun W => bound_Right ⟨0, 0, 0, 0, 0⟩ W
  have C1 := Lib.hid c1
  have C2 := Lib.hid c2
  have C3 := Lib.hid c3
  have C4 := Lib.hid c4
  have C5 := Lib.hid c5
  clear c1 c2 c3 c4 c5
  go_enter Try.func17, Try.ntmps17
  go_wp2_with fail
  refine (C1.out _).mono ?_
  rintro e w1 ⟨rfl, h1⟩
  have q1_0 := cell_after (a := ⟨w.heap.size, 0, none⟩) (v := .int .i64 3) h1 (by simp) (by simp [go_sem])
  have q1_1 := cell_after (a := ⟨w.heap.size, 1, none⟩) (v := .int .i64 1) h1 (by simp) (by simp [go_sem])
  have q1_2 := cell_after (a := ⟨w.heap.size, 2, none⟩) (v := .int .i64 2) h1 (by simp) (by simp [go_sem])
  have q1_3 := cell_after (a := ⟨w.heap.size, 3, none⟩) (v := .int .i64 1) h1 (by simp) (by simp [go_sem])
  have q1_4 := cell_after (a := ⟨w.heap.size, 4, none⟩) (v := .int .i64 0) h1 (by simp) (by simp [go_sem])
  have z1 : w.heap.size < w1.heap.size := by have := h1.size; simp at this; omega
  go_wp2_with fail
  refine (C2.out _).mono ?_
  rintro e w2 ⟨rfl, h2⟩
  have q2_0 := cell_after h2 z1 q1_0
  have q2_1 := cell_after h2 z1 q1_1
  have q2_2 := cell_after h2 z1 q1_2
  have q2_3 := cell_after h2 z1 q1_3
  have q2_4 := cell_after h2 z1 q1_4
  have z2 : w.heap.size < w2.heap.size := by have := h2.size; omega
  go_wp2_with fail
  refine (C3.out _).mono ?_
  rintro e w3 ⟨rfl, h3⟩
  have q3_0 := cell_after h3 z2 q2_0
  have q3_1 := cell_after h3 z2 q2_1
  have q3_2 := cell_after h3 z2 q2_2
  have q3_3 := cell_after h3 z2 q2_3
  have q3_4 := cell_after h3 z2 q2_4
  go_wp2_with fail
  refine (C4.out _).mono ?_
  rintro e w4 ⟨rfl, rfl⟩
  go_wp2_with fail
  refine (C5.out _).mono ?_
  rintro e w4 ⟨rfl, rfl⟩
  go_wp2_with fail
  go_ret
  exact ⟨rfl, (by repeat (first | exact Below.refl _ _ | assumption | refine bel_drew ?_ | refine bel_drewN ?_ _ | refine bel_alloc ?_ _ | refine bel_set ?_ (by first | (dsimp only; omega) | (simp; done) | (simp; omega)) _ | refine bel_trans ?_ (by assumption)))⟩

set_option maxRecDepth 100000 in
set_option maxHeartbeats 2000000 in
theorem law47_BoundParts (c : PBd.Case) (w : World) (hq : -9223372036854775808 ≤ c.q ∧ c.q ≤ 9223372036854775807) (hw : -9223372036854775808 ≤ c.wi ∧ c.wi ≤ 9223372036854775807) (hch : -9223372036854775808 ≤ c.ch ∧ c.ch ≤ 9223372036854775807) (hah : -9223372036854775808 ≤ c.ah ∧ c.ah ≤ 9223372036854775807) :
    Calls Try.prog 4 #[caseV c] w fun e w' => e = .returned (.bool true) ∧ Below w.heap.size w w' := by
  have K1 := fun W => bound_Head c W hq.2 hw.2
  have K2 := fun W => bound_Ticket c W hq.2 hw.2
  have K3 := fun W => bound_Drain c W hq.2 hw.2
  by_cases h : c.right ∧ c.ticket ≤ PBd.big
  · obtain ⟨e2, e1, e3, m1, m2, m3, m4⟩ := PBd.parts h
    rw [e1] at K1
    rw [e2] at K2
    rw [e3] at K3
    have b1 := PBd.ticket_ge h.1
    have b2 := PBd.head_ge h.1
    have b3 := PBd.drain_bd h.1
    have b4 := PBd.inner_bd h.1
    have b5 := h.2
    have b6 := h.1.1
    have b7 := h.1.2.1
    have b8 := h.1.2.2.2.2.2
    unfold PBd.big at b5
    obtain ⟨mid, hmid⟩ : ∃ x, c.drain * (c.ch + 2) = x := ⟨_, rfl⟩
    rw [hmid] at m2
    have hmid0 : 0 ≤ mid := by rw [← hmid]; exact Int.mul_nonneg (by omega) (by omega)
    have t0 : 0 ≤ c.ticket := by omega
    have t1 : 0 ≤ c.head := by omega
    have t2 : c.head ≤ 9223372036854775807 := by omega
    have t3 : 0 ≤ c.drain := by omega
    have t4 : c.ah ≤ 256 := b8.2.2
    have t5 : 0 ≤ c.ah := b8.2.1
    have m5 : mid ≤ 9223372036854775807 := by omega
    clear h e1 e2 e3 b1 b2 b4 b8
    unfold toldV at K1 K2 K3
    unfold caseV at K1 K2 K3 ⊢
    generalize c.ticket = tick at *
    generalize c.head = head at *
    generalize c.drain = d at *
    obtain ⟨ch, q, cl, wi, ah⟩ := c
    dsimp only at *
    replace m1 := m1.symm
    replace K1 := Lib.hid K1
    replace K2 := Lib.hid K2
    replace K3 := Lib.hid K3
    go_enter Try.func4, Try.ntmps4
    go_wp2_with fail
    refine (K1.out _).mono ?_
    rintro e w1 ⟨rfl, h1⟩
    have q1_0 := cell_after (a := ⟨w.heap.size, 0, none⟩) (v := .int .i64 ch) h1 (by simp) (by simp [go_sem])
    have q1_1 := cell_after (a := ⟨w.heap.size, 1, none⟩) (v := .int .i64 q) h1 (by simp) (by simp [go_sem])
    have q1_2 := cell_after (a := ⟨w.heap.size, 2, none⟩) (v := .int .i64 cl) h1 (by simp) (by simp [go_sem])
    have q1_3 := cell_after (a := ⟨w.heap.size, 3, none⟩) (v := .int .i64 wi) h1 (by simp) (by simp [go_sem])
    have q1_4 := cell_after (a := ⟨w.heap.size, 4, none⟩) (v := .int .i64 ah) h1 (by simp) (by simp [go_sem])
    have z1 : w.heap.size < w1.heap.size := by have := h1.size; simp at this; omega
    go_wp2_with fail
    refine (K2.out _).mono ?_
    rintro e w2 ⟨rfl, h2⟩
    have q2_0 := cell_after h2 z1 q1_0
    have q2_1 := cell_after h2 z1 q1_1
    have q2_2 := cell_after h2 z1 q1_2
    have q2_3 := cell_after h2 z1 q1_3
    have q2_4 := cell_after h2 z1 q1_4
    have z2 : w.heap.size < w2.heap.size := by have := h2.size; omega
    go_wp2_with fail
    refine (K3.out _).mono ?_
    rintro e w3 ⟨rfl, h3⟩
    have q3_0 := cell_after h3 z2 q2_0
    have q3_3 := cell_after h3 z2 q2_3
    have q3_4 := cell_after h3 z2 q2_4
    go_wp2_with fail
    refine (law47_works _).mono ?_
    rintro e w4 ⟨rfl, h4⟩
    go_wp2_with fail
    go_ret
    exact ⟨rfl, (by repeat (first | exact Below.refl _ _ | assumption | refine bel_drew ?_ | refine bel_drewN ?_ _ | refine bel_alloc ?_ _ | refine bel_set ?_ (by first | (dsimp only; omega) | (simp; done) | (simp; omega)) _ | refine bel_trans ?_ (by assumption)))⟩
  · rw [PBd.parts_no h] at K2
    clear h
    generalize PBd.headV c = p at *
    generalize PBd.drainV c = d at *
    unfold toldV at K1 K2 K3
    unfold caseV at K1 K2 K3 ⊢
    obtain ⟨ch, q, cl, wi, ah⟩ := c
    obtain ⟨p1, p2⟩ := p
    obtain ⟨d1, d2⟩ := d
    dsimp only at *
    replace K1 := Lib.hid K1
    replace K2 := Lib.hid K2
    replace K3 := Lib.hid K3
    go_enter Try.func4, Try.ntmps4
    go_wp2_with fail
    refine (K1.out _).mono ?_
    rintro e w1 ⟨rfl, h1⟩
    have q1_0 := cell_after (a := ⟨w.heap.size, 0, none⟩) (v := .int .i64 ch) h1 (by simp) (by simp [go_sem])
    have q1_1 := cell_after (a := ⟨w.heap.size, 1, none⟩) (v := .int .i64 q) h1 (by simp) (by simp [go_sem])
    have q1_2 := cell_after (a := ⟨w.heap.size, 2, none⟩) (v := .int .i64 cl) h1 (by simp) (by simp [go_sem])
    have q1_3 := cell_after (a := ⟨w.heap.size, 3, none⟩) (v := .int .i64 wi) h1 (by simp) (by simp [go_sem])
    have q1_4 := cell_after (a := ⟨w.heap.size, 4, none⟩) (v := .int .i64 ah) h1 (by simp) (by simp [go_sem])
    have z1 : w.heap.size < w1.heap.size := by have := h1.size; simp at this; omega
    go_wp2_with fail
    refine (K2.out _).mono ?_
    rintro e w2 ⟨rfl, h2⟩
    have q2_0 := cell_after h2 z1 q1_0
    have q2_1 := cell_after h2 z1 q1_1
    have q2_2 := cell_after h2 z1 q1_2
    have q2_3 := cell_after h2 z1 q1_3
    have q2_4 := cell_after h2 z1 q1_4
    go_wp2_with fail
    refine (K3.out _).mono ?_
    rintro e w3 ⟨rfl, h3⟩
    go_wp2_with fail
    refine (law47_works _).mono ?_
    rintro e w4 ⟨rfl, h4⟩
    go_wp2_with fail
    go_ret
    exact ⟨rfl, (by repeat (first | exact Below.refl _ _ | assumption | refine bel_drew ?_ | refine bel_drewN ?_ _ | refine bel_alloc ?_ _ | refine bel_set ?_ (by first | (dsimp only; omega) | (simp; done) | (simp; omega)) _ | refine bel_trans ?_ (by assumption)))⟩
end Go.Proofs.Ytfgfnfjeopjbgaa
