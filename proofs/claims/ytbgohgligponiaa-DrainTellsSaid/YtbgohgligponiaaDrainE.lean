/-
  The walk of the law DrainTells.
-/
import Derived.Test.YtbgohgligponiaaDrainC
import Derived.Test.YtbgohgligponiaaDrainD
namespace Go.Proofs.Ytbgohgligponiaa
open Go.RowKit
set_option linter.unusedVariables false
attribute [local go_sem] drewN_alloc drewN_setCell

set_option maxHeartbeats 1000000 in
theorem law22_DrainTells_no (n q t : Int) (w : World) (hn : -9223372036854775808 ≤ n ∧ n ≤ 9223372036854775807) (hq : -9223372036854775808 ≤ q ∧ q ≤ 9223372036854775807) (ht : -9223372036854775808 ≤ t ∧ t ≤ 9223372036854775807) (hm : PD.may n q t = false) :
    Calls Try.prog 11 #[.int .i64 n, .int .i64 q, .int .i64 t] w fun e w' => e = .returned (.bool true) ∧ Below w.heap.size w w' := by
  have c1 := fun W => drain_Taken n q t W hn hq ht
  have c2 := fun W => drain_Left n q t W hn hq ht
  have c3 := fun W => ref22_Left n q t W hn hq ht
  rw [show PD.taken n q t = (0, false) by unfold PD.taken; rw [if_neg (by rw [hm]; simp)]] at c1
  rw [show PD.left n q t = (0, false) by unfold PD.left; rw [if_neg (by rw [hm]; simp)]] at c2 c3
  have CT := Lib.hid c1
  have CL := Lib.hid c2
  have CR := Lib.hid c3
  clear c1 c2 c3 hm
  go_enter Try.func11, Try.ntmps11
  go_wp2_with fail
  refine (drain_Ticks n q _ hn hq).mono ?_
  rintro e w1 ⟨rfl, rfl⟩
  go_wp2_with fail
  refine (ref22_Ticks n q _ hn hq).mono ?_
  rintro e w2 ⟨rfl, rfl⟩
  go_wp2_with fail
  refine (CL.out _).mono ?_
  rintro e w3 ⟨rfl, rfl⟩
  go_wp2_with fail
  refine (CR.out _).mono ?_
  rintro e w4 ⟨rfl, rfl⟩
  go_wp2_with fail
  refine (CT.out _).mono ?_
  rintro e w5 ⟨rfl, rfl⟩
  go_wp2_with fail
  refine (drain_Last n q _ hn hq).mono ?_
  rintro e w6 ⟨rfl, rfl⟩
  go_wp2_with fail
  refine (ref22_Last n q _ hn hq).mono ?_
  rintro e w7 ⟨rfl, rfl⟩
  go_wp2_with fail
  refine (drain_Plan n q _ hn hq).mono ?_
  rintro e w8 ⟨A, na, ca, rfl, ia, k8⟩
  have z8 := k8.size
  try simp only [World.heap_drewN] at z8
  try simp only [World.size_alloc] at z8
  have tw8 : w.heap.size ≤ w8.heap.size := by omega
  have K8 : Below w.heap.size w w8 := (by repeat (first | exact Below.refl _ _ | assumption | refine bel_drew ?_ | refine bel_drewN ?_ _ | refine bel_alloc ?_ _ | refine bel_set ?_ (by first | (dsimp only; omega) | (simp; done) | (simp; omega)) _ | refine bel_trans ?_ (by assumption)))
  clear k8 z8
  have IA := Lib.hid ia
  clear ia
  go_wp2_with fail
  refine (ref22_Plan n q _ hn hq).mono ?_
  rintro e w9 ⟨B, nb, cb, rfl, ib, k9⟩
  have IB := Lib.hid ib
  clear ib
  go_wp2_with fail
  refine (base_SameInts ca cb (IA.out.keep (by assumption)) IB.out).mono ?_
  rintro e w10 ⟨rfl, k10⟩
  go_wp2_with fail
  refine (law22_works _).mono ?_
  rintro e w11 ⟨rfl, k11⟩
  go_wp2_with fail
  go_ret
  exact ⟨rfl, (by repeat (first | exact Below.refl _ _ | assumption | refine bel_drew ?_ | refine bel_drewN ?_ _ | refine bel_alloc ?_ _ | refine bel_set ?_ (by first | (dsimp only; omega) | (simp; done) | (simp; omega)) _ | refine bel_trans ?_ (by assumption)))⟩
  

set_option maxHeartbeats 1000000 in
theorem law22_DrainTells_yes (n q t : Int) (w : World) (hn : -9223372036854775808 ≤ n ∧ n ≤ 9223372036854775807) (hq : -9223372036854775808 ≤ q ∧ q ≤ 9223372036854775807) (ht : -9223372036854775808 ≤ t ∧ t ≤ 9223372036854775807) (hm : PD.may n q t = true) :
    Calls Try.prog 11 #[.int .i64 n, .int .i64 q, .int .i64 t] w fun e w' => e = .returned (.bool true) ∧ Below w.heap.size w w' := by
  have c1 := fun W => drain_Taken n q t W hn hq ht
  have c2 := fun W => drain_Left n q t W hn hq ht
  have c3 := fun W => ref22_Left n q t W hn hq ht
  obtain ⟨g1, g2, g3⟩ := (PD.may_iff _ _ _).1 hm
  obtain ⟨a, ha⟩ : ∃ a, (PD.taken n q t).1 = a := ⟨_, rfl⟩
  have hl : PD.left n q t = (n - a, true) := by unfold PD.left; rw [if_pos hm, ha]
  have htk : PD.taken n q t = (a, true) := Prod.ext ha ((PD.taken_is _ _ _).trans hm)
  have a0 : 0 ≤ a ∧ a ≤ n := by
    have hp : 0 ≤ q * t := Int.mul_nonneg (by omega) g3
    rw [← ha, PD.taken_min n q t hm hn.2]; omega
  obtain ⟨a0, a1⟩ := a0
  rw [htk] at c1
  rw [hl] at c2 c3
  have CT := Lib.hid c1
  have CL := Lib.hid c2
  have CR := Lib.hid c3
  have hsub : n - (n - a) = a := by omega
  have hbq : (a == n - (n - a)) = true := by simp; omega
  clear c1 c2 c3 hm ha hl htk
  go_enter Try.func11, Try.ntmps11
  go_wp2_with fail
  refine (drain_Ticks n q _ hn hq).mono ?_
  rintro e w1 ⟨rfl, rfl⟩
  go_wp2_with fail
  refine (ref22_Ticks n q _ hn hq).mono ?_
  rintro e w2 ⟨rfl, rfl⟩
  go_wp2_with fail
  refine (CL.out _).mono ?_
  rintro e w3 ⟨rfl, rfl⟩
  go_wp2_with fail
  refine (CR.out _).mono ?_
  rintro e w4 ⟨rfl, rfl⟩
  go_wp2_with fail
  refine (CT.out _).mono ?_
  rintro e w5 ⟨rfl, rfl⟩
  go_wp2_with fail
  refine (drain_Last n q _ hn hq).mono ?_
  rintro e w6 ⟨rfl, rfl⟩
  go_wp2_with fail
  refine (ref22_Last n q _ hn hq).mono ?_
  rintro e w7 ⟨rfl, rfl⟩
  go_wp2_with fail
  refine (drain_Plan n q _ hn hq).mono ?_
  rintro e w8 ⟨A, na, ca, rfl, ia, k8⟩
  have z8 := k8.size
  try simp only [World.heap_drewN] at z8
  try simp only [World.size_alloc] at z8
  have tw8 : w.heap.size ≤ w8.heap.size := by omega
  have K8 : Below w.heap.size w w8 := (by repeat (first | exact Below.refl _ _ | assumption | refine bel_drew ?_ | refine bel_drewN ?_ _ | refine bel_alloc ?_ _ | refine bel_set ?_ (by first | (dsimp only; omega) | (simp; done) | (simp; omega)) _ | refine bel_trans ?_ (by assumption)))
  clear k8 z8
  have IA := Lib.hid ia
  clear ia
  go_wp2_with fail
  refine (ref22_Plan n q _ hn hq).mono ?_
  rintro e w9 ⟨B, nb, cb, rfl, ib, k9⟩
  have IB := Lib.hid ib
  clear ib
  go_wp2_with fail
  refine (base_SameInts ca cb (IA.out.keep (by assumption)) IB.out).mono ?_
  rintro e w10 ⟨rfl, k10⟩
  go_wp2_with fail
  refine (law22_works _).mono ?_
  rintro e w11 ⟨rfl, k11⟩
  go_wp2_with fail
  go_ret
  exact ⟨rfl, (by repeat (first | exact Below.refl _ _ | assumption | refine bel_drew ?_ | refine bel_drewN ?_ _ | refine bel_alloc ?_ _ | refine bel_set ?_ (by first | (dsimp only; omega) | (simp; done) | (simp; omega)) _ | refine bel_trans ?_ (by assumption)))⟩
  

theorem law22_DrainTells (n q t : Int) (w : World) (hn : -9223372036854775808 ≤ n ∧ n ≤ 9223372036854775807) (hq : -9223372036854775808 ≤ q ∧ q ≤ 9223372036854775807) (ht : -9223372036854775808 ≤ t ∧ t ≤ 9223372036854775807) :
    Calls Try.prog 11 #[.int .i64 n, .int .i64 q, .int .i64 t] w fun e w' => e = .returned (.bool true) ∧ Below w.heap.size w w' := by
  cases hm : PD.may n q t
  · exact law22_DrainTells_no n q t w hn hq ht hm
  · exact law22_DrainTells_yes n q t w hn hq ht hm
end Go.Proofs.Ytbgohgligponiaa
