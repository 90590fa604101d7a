/-
  The contract of drain.Plan, and of its closure.
-/
import Derived.Test.YtbgohgligponiaaPlainPlan
import Derived.Test.YtbgohgligponiaaDrainA
import Derived.Test.YtbgohgligponiaaRow
import Derived.Test.YtbgohgligponiaaInts
namespace Go.Proofs.Ytbgohgligponiaa
open Go.RowKit
set_option linter.unusedVariables false
attribute [local go_sem] drewN_alloc drewN_setCell

theorem drain_take (b b' : Nat) (x q : Int) (w : World) (x0 : 0 ≤ x) (x1 : x ≤ 9223372036854775807) (q0 : 1 ≤ q) (q1 : q ≤ 9223372036854775807)
    (hx : w.cell? ⟨b, 0, none⟩ = some (.int .i64 x)) (hf : w.frozen? ⟨b, 0, none⟩ = false) (hq : w.cell? ⟨b', 0, none⟩ = some (.int .i64 q)) :
    Calls Try.prog 61 #[.pointer (some ⟨b, 0, none⟩), .pointer (some ⟨b', 0, none⟩)] w fun e w' => e = .returned (.int .i64 (min x q)) ∧ w.setCell ⟨b, 0, none⟩ (.int .i64 (x - min x q)) = w' := by
  by_cases h : x ≤ q
  · have e1 : min x q = x := by omega
    rw [e1, show x - x = 0 by omega]
    clear e1
    go_enter Try.func61, Try.ntmps61
    go_wp2
    go_ret
    exact ⟨rfl, rfl⟩
  · have e1 : min x q = q := by omega
    have h' : q < x := by omega
    rw [e1]
    clear e1 h
    go_enter Try.func61, Try.ntmps61
    go_wp2
    go_ret
    exact ⟨rfl, rfl⟩
/-- A call's slice result: of new memory, read as a list. -/
def GivesInts (w : World) (xs : List Int) (e : Ending) (w' : World) : Prop :=
  ∃ A n c, e = .returned (.slice A n c) ∧ IntsAt w' A n xs ∧ Below w.heap.size w w'

theorem drain_Plan_no (x q : Int) (w : World) (hx : -9223372036854775808 ≤ x ∧ x ≤ 9223372036854775807) (hq : -9223372036854775808 ≤ q ∧ q ≤ 9223372036854775807) (h : ¬ (0 ≤ x ∧ 1 ≤ q)) :
    Calls Try.prog 38 #[.int .i64 x, .int .i64 q] w (GivesInts w []) := by
  have c := fun W => drain_Last x q W hx hq
  rw [PD.ceil_no h] at c
  have C := Lib.hid c
  clear c h
  go_enter Try.func38, Try.ntmps38
  go_wp2_with fail
  refine (C.out _).mono ?_
  rintro e w1 ⟨rfl, rfl⟩
  go_wp2_with fail
  go_ret
  exact ⟨none, 0, 0, rfl, IntsAt.nil, (by repeat (first | exact Below.refl _ _ | assumption | refine bel_drew ?_ | refine bel_drewN ?_ _ | refine bel_alloc ?_ _ | refine bel_set ?_ (by first | (dsimp only; omega) | (simp; done) | (simp; omega)) _ | refine bel_trans ?_ (by assumption)))⟩

theorem drain_Plan_big (x q : Int) (w : World) (hx : -9223372036854775808 ≤ x ∧ x ≤ 9223372036854775807) (hq : -9223372036854775808 ≤ q ∧ q ≤ 9223372036854775807) (h0 : 0 ≤ x) (h1 : 1 ≤ q) (h : 4096 < (PN.ceil x q).1) :
    Calls Try.prog 38 #[.int .i64 x, .int .i64 q] w (GivesInts w []) := by
  have c := fun W => drain_Last x q W hx hq
  rw [(PD.ceil_bd h0 h1).1] at c
  have C := Lib.hid c
  clear c
  go_enter Try.func38, Try.ntmps38
  go_wp2_with fail
  refine (C.out _).mono ?_
  rintro e w1 ⟨rfl, rfl⟩
  go_wp2_with fail
  go_ret
  exact ⟨none, 0, 0, rfl, IntsAt.nil, (by repeat (first | exact Below.refl _ _ | assumption | refine bel_drew ?_ | refine bel_drewN ?_ _ | refine bel_alloc ?_ _ | refine bel_set ?_ (by first | (dsimp only; omega) | (simp; done) | (simp; omega)) _ | refine bel_trans ?_ (by assumption)))⟩

/-- What holds at the head of Plan's loop. -/
def PlanRel (w : World) (x q : Int) (N : Nat) (i : Value) (wr : World) : Prop :=
  ∃ k : Nat, k ≤ N ∧ i = .int .i64 k ∧ RowAt wr (w.heap.size + 1 + 1) 3 (filled N k (fun j => .int .i64 (PD.el x q j)) (.int .i64 0)) ∧
    RowAt wr w.heap.size 3 [.int .i64 (PD.rem x q k)] ∧ RowAt wr (w.heap.size + 1) 3 [.int .i64 q] ∧ Below w.heap.size w wr

set_option maxHeartbeats 1000000 in
theorem drain_Plan_yes (x q : Int) (N : Nat) (w : World) (hx : x ≤ 9223372036854775807) (hq : q ≤ 9223372036854775807) (h0 : 0 ≤ x) (h1 : 1 ≤ q) (h : (N : Int) ≤ 4096)
    (hc : Hid (∀ W, Calls Try.prog 39 #[.int .i64 x, .int .i64 q] W fun e w' => e = .returned (.tuple #[.int .i64 (N : Int), .bool true]) ∧ W = w')) :
    Calls Try.prog 38 #[.int .i64 x, .int .i64 q] w (GivesInts w (PD.planL x q N)) := by
  have hinfo : (Try.prog.info? 3).map (fun i => (i.zero, i.size, i.bytes)) = some (some (.int .i64 0), 1, 8) := by kernel_rfl
  have hmk := run_make_row' (P := Try.prog) 51 3 (.int .i64 0) 8 Try.underlying51 hinfo rfl .i64 .i64 N (by omega) (by omega)
  rw [filled_made _ _ (fun j => .int .i64 (PD.el x q j))] at hmk
  clear hinfo
  go_enter Try.func38, Try.ntmps38
  go_wp2_with fail
  refine (hc.out _).mono ?_
  rintro e w1 ⟨rfl, rfl⟩
  go_wp2_with fail
  go_loopw [26] (fun i wr => PlanRel w x q N i wr) (fun i _ => N - (intOf i).toNat)
  case atStart =>
    refine ⟨0, Nat.zero_le _, rfl, ?_, ?_, ?_, (by repeat (first | exact Below.refl _ _ | assumption | refine bel_drew ?_ | refine bel_drewN ?_ _ | refine bel_alloc ?_ _ | refine bel_set ?_ (by first | (dsimp only; omega) | (simp; done) | (simp; omega)) _ | refine bel_trans ?_ (by assumption)))⟩
    · have := RowAt.new ((w.alloc (.cells #[.int .i64 x] 3)).alloc (.cells #[.int .i64 q] 3)) 3 (filled N 0 (fun j => .int .i64 (PD.el x q j)) (.int .i64 0))
      simpa using this
    · exact (((RowAt.new w 3 [.int .i64 x]).alloc _).alloc _)
    · have := (RowAt.new (w.alloc (.cells #[.int .i64 x] 3)) 3 [.int .i64 q]).alloc (.cells (filled N 0 (fun j => .int .i64 (PD.el x q j)) (.int .i64 0)).toArray 3)
      simpa using this
  case round =>
    obtain ⟨k, hk, rfl, R1, R2, R3, hbel⟩ := hrel
    by_cases hlt : (k : Int) < N
    · have x0 : wr.cell? ⟨w.heap.size, 0, none⟩ = some (.int .i64 (PD.rem x q k)) := by rw [R2.cell]; rfl
      have f0 := R2.frozen 0
      have q0 : wr.cell? ⟨w.heap.size + 1, 0, none⟩ = some (.int .i64 q) := by rw [R3.cell]; rfl
      have s0 : wr.cell? ⟨w.heap.size + 1 + 1, k, none⟩ = some (.int .i64 0) := by rw [R1.cell, filled_get _ _ (by omega)]; simp
      have s1 := R1.frozen k
      have bd := PD.rem_bd h0 h1 k
      have l2 := R2.lt
      have l1 := R1.lt
      have T := Lib.hid (drain_take w.heap.size (w.heap.size + 1) (PD.rem x q k) q wr bd.1 (by omega) h1 hq x0 f0 q0)
      have R1' := Lib.hid R1
      have R2' := Lib.hid R2
      have R3' := Lib.hid R3
      have j1 : (0 : Int) ≤ (k : Int) := by omega
      clear R1 R2 R3 bd
      go_wp2_with fail
      refine T.out.mono ?_
      rintro e w2 ⟨rfl, rfl⟩
      go_wp2_with fail
      go_roundw
      case rel =>
        refine ⟨k + 1, by omega, by go_num, ?_, ?_, ?_, (by repeat (first | exact Below.refl _ _ | assumption | refine bel_drew ?_ | refine bel_drewN ?_ _ | refine bel_alloc ?_ _ | refine bel_set ?_ (by first | (dsimp only; omega) | (simp; done) | (simp; omega)) _ | refine bel_trans ?_ (by assumption)))⟩
        · rw [← filled_set]; exact (R1'.out.far (by show w.heap.size + 1 + 1 ≠ w.heap.size; omega) _).set_ k _
        · exact (R2'.out.set_ 0 _).far (by show w.heap.size ≠ w.heap.size + 1 + 1; omega) _
        · exact (R3'.out.far (by show w.heap.size + 1 ≠ w.heap.size; omega) _).far (by show w.heap.size + 1 ≠ w.heap.size + 1 + 1; omega) _
      case measure => simp [intOf]; omega
    · obtain rfl : k = N := by omega
      have R1' := Lib.hid R1
      clear R1 R2 R3
      go_wp2_with fail
      go_ret
      refine ⟨_, _, _, rfl, ⟨PD.planL_len _ _ _, by omega, fun hn => ⟨_, _, rfl, R1'.out.lt, fun i hi => ?_⟩⟩, hbel⟩
      rw [Nat.zero_add, R1'.out.cell, filled_get _ _ hi, if_pos hi, PD.planL_get hi]

theorem drain_Plan (x q : Int) (w : World) (hx : -9223372036854775808 ≤ x ∧ x ≤ 9223372036854775807) (hq : -9223372036854775808 ≤ q ∧ q ≤ 9223372036854775807) :
    Calls Try.prog 38 #[.int .i64 x, .int .i64 q] w (GivesInts w (PD.plan x q)) := by
  by_cases h : 0 ≤ x ∧ 1 ≤ q
  · obtain ⟨e1, e2, e3, _, _⟩ := PD.ceil_bd h.1 h.2
    by_cases h4 : (PN.ceil x q).1 ≤ 4096
    · have hv : PD.plan x q = PD.planL x q (PN.ceil x q).1.toNat := by unfold PD.plan; rw [if_pos ⟨e1, h4⟩]
      rw [hv]
      refine drain_Plan_yes x q (PN.ceil x q).1.toNat w hx.2 hq.2 h.1 h.2 (by omega) ?_
      intro W
      have := drain_Last x q W hx hq
      rw [e1] at this
      rw [Int.toNat_of_nonneg e2]
      exact this
    · have hv : PD.plan x q = [] := by unfold PD.plan; rw [if_neg (by omega)]
      rw [hv]
      exact drain_Plan_big x q w hx hq h.1 h.2 (by omega)
  · have hv : PD.plan x q = [] := by unfold PD.plan; rw [if_neg (by rw [PD.ceil_no h]; simp)]
    rw [hv]
    exact drain_Plan_no x q w hx hq h
end Go.Proofs.Ytbgohgligponiaa
