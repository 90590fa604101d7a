/-
  Layer 47 (bound): told, with a function value that ends well, and with one that gives up.
-/
import Derived.Test.YtfgfnfjeopjbgaaBoundD
import Derived.Test.YtfgfnfjeopjbgaaBoundE
namespace Go.Proofs.Ytfgfnfjeopjbgaa
open Go.RowKit
set_option linter.unusedVariables false
attribute [local go_sem] drewN_alloc drewN_setCell

set_option maxHeartbeats 1000000 in
theorem told_wrong (c : PBd.Case) (fv : Value) (w : World) (h : ¬ c.right) :
    Calls Try.prog 70 #[caseV c, fv] w fun e w' => e = .returned (.tuple #[.int .i64 0, .bool false]) ∧ Below w.heap.size w w' := by
  have R := fun W => bound_Right c W
  rw [decide_eq_false h] at R
  replace R := Lib.hid R
  clear h
  unfold caseV caseBox at R
  unfold caseV
  go_enter_defers Try.func70, Try.ntmps70
  go_wp2_with fail
  refine (R.out _).mono ?_
  rintro e w1 ⟨rfl, rfl⟩
  go_wp2_with fail
  simp [bodyPostD, Leaves, results, Try.results70, go_sem]
  exact (by repeat (first | exact Below.refl _ _ | assumption | refine bel_drew ?_ | refine bel_drewN ?_ _ | refine bel_alloc ?_ _ | refine bel_set ?_ (by first | (dsimp only; omega) | (simp; done) | (simp; omega)) _ | refine bel_trans ?_ (by assumption)))

set_option maxRecDepth 100000 in
set_option maxHeartbeats 1000000 in
theorem told_yes_m (F : FuncId) (c : PBd.Case) (n : Int) (w : World) (h : c.right)
    (hcf : ∀ w, (callFunc F #[caseV c]).run Try.prog w = .ok (.enter F #[caseV c]) w) (hF : ∀ W, Below w.heap.size w W → Calls Try.prog F #[caseV c] W fun e w' => e = .returned (.int .i64 n) ∧ Below W.heap.size W w') :
    Calls Try.prog 70 #[caseV c, .func (.func F) #[caseV c] #[]] w fun e w' => e = .returned (.tuple #[.int .i64 n, .bool true]) ∧ Below w.heap.size w w' := by
  have R := fun W => bound_Right c W
  rw [decide_eq_true h] at R
  replace R := Lib.hid R
  replace hF := Lib.hid hF
  clear h
  unfold caseV caseBox at R
  unfold caseV at hF hcf ⊢
  have hmf : ∀ (fn : Fn) (first cap : Array Value) (w : World), (Instr.makeFunc fn first cap).run Try.prog w = .ok (.func fn first cap) w := fun _ _ _ _ => rfl
  go_enter_defers Try.func70, Try.ntmps70
  go_wp2_with fail
  refine (R.out _).mono ?_
  rintro e w1 ⟨rfl, rfl⟩
  go_wp2_with fail
  refine (hF.out _ (by repeat (first | exact Below.refl _ _ | assumption | refine bel_drew ?_ | refine bel_drewN ?_ _ | refine bel_alloc ?_ _ | refine bel_set ?_ (by first | (dsimp only; omega) | (simp; done) | (simp; omega)) _ | refine bel_trans ?_ (by assumption)))).mono ?_
  rintro e w1 ⟨he, hb⟩
  obtain rfl := he
  have q0 := cell_after (a := ⟨w.heap.size + 1, 0, none⟩) (v := .int .i64 0) hb (by simp) (by simp [go_sem])
  have q1 := cell_after (a := ⟨w.heap.size + 1 + 1, 0, none⟩) (v := .bool false) hb (by simp) (by simp [go_sem])
  have f0 := frozen_after (a := ⟨w.heap.size + 1, 0, none⟩) hb (by simp) (by simp [go_sem])
  have f1 := frozen_after (a := ⟨w.heap.size + 1 + 1, 0, none⟩) hb (by simp) (by simp [go_sem])
  have hz : w.heap.size + 1 + 1 < w1.heap.size := by have := hb.size; simp at this; omega
  have hz1 : w.heap.size + 1 < w1.heap.size := by omega
  have HB : Below w.heap.size w w1 := bel_trans (by exact (by repeat (first | exact Below.refl _ _ | assumption | refine bel_drew ?_ | refine bel_drewN ?_ _ | refine bel_alloc ?_ _ | refine bel_set ?_ (by first | (dsimp only; omega) | (simp; done) | (simp; omega)) _ | refine bel_trans ?_ (by assumption)))) hb
  replace HB := Lib.hid HB
  clear hb
  go_wp2_with fail
  refine leaves_cons (f := 93) (args := #[.pointer (some ⟨w.heap.size + 1, 0, none⟩), .pointer (some ⟨w.heap.size + 1 + 1, 0, none⟩)]) (by simp) (by simp [go_sem]) ?_
  refine (told_idle _ _ _).mono ?_
  rintro e u' w'' ⟨rfl, rfl, rfl⟩
  have s0 := World.cell?_setCell_same w1 ⟨w.heap.size + 1, 0, none⟩ (.int .i64 n) q0
  have s1 := (World.cell?_setCell_other w1 ⟨w.heap.size + 1, 0, none⟩ ⟨w.heap.size + 1 + 1, 0, none⟩ (.int .i64 n) (by simp)).trans q1
  have s2 := World.cell?_setCell_same _ ⟨w.heap.size + 1 + 1, 0, none⟩ (.bool true) s1
  simp [Leaves, settle, results, Try.results70, go_sem, s0, s2]
  have hb2 := HB.out
  exact (by repeat (first | exact Below.refl _ _ | assumption | refine bel_drew ?_ | refine bel_drewN ?_ _ | refine bel_alloc ?_ _ | refine bel_set ?_ (by first | (dsimp only; omega) | (simp; done) | (simp; omega)) _ | refine bel_trans ?_ (by assumption)))

set_option maxRecDepth 100000 in
set_option maxHeartbeats 1000000 in
theorem told_over_m (F : FuncId) (c : PBd.Case) (w : World) (h : c.right)
    (hcf : ∀ w, (callFunc F #[caseV c]).run Try.prog w = .ok (.enter F #[caseV c]) w) (hF : ∀ W, Below w.heap.size w W → Calls Try.prog F #[caseV c] W fun e w' => Over e ∧ Below W.heap.size W w') :
    Calls Try.prog 70 #[caseV c, .func (.func F) #[caseV c] #[]] w fun e w' => e = .returned (.tuple #[.int .i64 0, .bool false]) ∧ Below w.heap.size w w' := by
  have R := fun W => bound_Right c W
  rw [decide_eq_true h] at R
  replace R := Lib.hid R
  replace hF := Lib.hid hF
  clear h
  unfold caseV caseBox at R
  unfold caseV at hF hcf ⊢
  have hmf : ∀ (fn : Fn) (first cap : Array Value) (w : World), (Instr.makeFunc fn first cap).run Try.prog w = .ok (.func fn first cap) w := fun _ _ _ _ => rfl
  go_enter_defers Try.func70, Try.ntmps70
  go_wp2_with fail
  refine (R.out _).mono ?_
  rintro e w1 ⟨rfl, rfl⟩
  go_wp2_with fail
  refine (hF.out _ (by repeat (first | exact Below.refl _ _ | assumption | refine bel_drew ?_ | refine bel_drewN ?_ _ | refine bel_alloc ?_ _ | refine bel_set ?_ (by first | (dsimp only; omega) | (simp; done) | (simp; omega)) _ | refine bel_trans ?_ (by assumption)))).mono ?_
  rintro e w1 ⟨he, hb⟩
  obtain rfl := he
  have q0 := cell_after (a := ⟨w.heap.size + 1, 0, none⟩) (v := .int .i64 0) hb (by simp) (by simp [go_sem])
  have q1 := cell_after (a := ⟨w.heap.size + 1 + 1, 0, none⟩) (v := .bool false) hb (by simp) (by simp [go_sem])
  have f0 := frozen_after (a := ⟨w.heap.size + 1, 0, none⟩) hb (by simp) (by simp [go_sem])
  have f1 := frozen_after (a := ⟨w.heap.size + 1 + 1, 0, none⟩) hb (by simp) (by simp [go_sem])
  have hz : w.heap.size + 1 + 1 < w1.heap.size := by have := hb.size; simp at this; omega
  have hz1 : w.heap.size + 1 < w1.heap.size := by omega
  have HB : Below w.heap.size w w1 := bel_trans (by exact (by repeat (first | exact Below.refl _ _ | assumption | refine bel_drew ?_ | refine bel_drewN ?_ _ | refine bel_alloc ?_ _ | refine bel_set ?_ (by first | (dsimp only; omega) | (simp; done) | (simp; omega)) _ | refine bel_trans ?_ (by assumption)))) hb
  replace HB := Lib.hid HB
  clear hb
  go_wp2_with fail
  refine leaves_cons (f := 93) (args := #[.pointer (some ⟨w.heap.size + 1, 0, none⟩), .pointer (some ⟨w.heap.size + 1 + 1, 0, none⟩)]) (by simp) (by simp [go_sem]) ?_
  refine (told_over _ _ 0 false _ q0 q1 f0 f1 hz1 hz (by omega)).mono ?_
  rintro e u' w'' ⟨rfl, rfl, rfl⟩
  have s0 := World.cell?_setCell_same w1 ⟨w.heap.size + 1, 0, none⟩ (.int .i64 0) q0
  have s1 := (World.cell?_setCell_other w1 ⟨w.heap.size + 1, 0, none⟩ ⟨w.heap.size + 1 + 1, 0, none⟩ (.int .i64 0) (by simp)).trans q1
  have s2 := cell_alloc (.cells #[] 102) (by simp; omega) (World.cell?_setCell_same _ ⟨w.heap.size + 1 + 1, 0, none⟩ (.bool false) s1)
  have s3 := cell_alloc (.cells #[] 102) (by simp; omega) ((World.cell?_setCell_other (w1.setCell ⟨w.heap.size + 1, 0, none⟩ (.int .i64 0)) ⟨w.heap.size + 1 + 1, 0, none⟩ ⟨w.heap.size + 1, 0, none⟩ (.bool false) (by simp)).trans s0)
  simp [Leaves, settle, results, Try.results70, go_sem, s2, s3]
  have hb2 := HB.out
  exact (by repeat (first | exact Below.refl _ _ | assumption | refine bel_drew ?_ | refine bel_drewN ?_ _ | refine bel_alloc ?_ _ | refine bel_set ?_ (by first | (dsimp only; omega) | (simp; done) | (simp; omega)) _ | refine bel_trans ?_ (by assumption)))

set_option maxRecDepth 100000 in
set_option maxHeartbeats 1000000 in
theorem told_yes_p (F : FuncId) (c : PBd.Case) (n : Int) (bp : Nat) (w : World) (h : c.right)
    (hcf : ∀ w, (callFunc F #[.pointer (some ⟨bp, 0, none⟩)]).run Try.prog w = .ok (.enter F #[.pointer (some ⟨bp, 0, none⟩)]) w) (hF : ∀ W, Below w.heap.size w W → Calls Try.prog F #[.pointer (some ⟨bp, 0, none⟩)] W fun e w' => e = .returned (.int .i64 n) ∧ Below W.heap.size W w') :
    Calls Try.prog 70 #[caseV c, .func (.func F) #[] #[.pointer (some ⟨bp, 0, none⟩)]] w fun e w' => e = .returned (.tuple #[.int .i64 n, .bool true]) ∧ Below w.heap.size w w' := by
  have R := fun W => bound_Right c W
  rw [decide_eq_true h] at R
  replace R := Lib.hid R
  replace hF := Lib.hid hF
  clear h
  unfold caseV caseBox at R
  unfold caseV
  have hmf : ∀ (fn : Fn) (first cap : Array Value) (w : World), (Instr.makeFunc fn first cap).run Try.prog w = .ok (.func fn first cap) w := fun _ _ _ _ => rfl
  go_enter_defers Try.func70, Try.ntmps70
  go_wp2_with fail
  refine (R.out _).mono ?_
  rintro e w1 ⟨rfl, rfl⟩
  go_wp2_with fail
  refine (hF.out _ (by repeat (first | exact Below.refl _ _ | assumption | refine bel_drew ?_ | refine bel_drewN ?_ _ | refine bel_alloc ?_ _ | refine bel_set ?_ (by first | (dsimp only; omega) | (simp; done) | (simp; omega)) _ | refine bel_trans ?_ (by assumption)))).mono ?_
  rintro e w1 ⟨he, hb⟩
  obtain rfl := he
  have q0 := cell_after (a := ⟨w.heap.size + 1, 0, none⟩) (v := .int .i64 0) hb (by simp) (by simp [go_sem])
  have q1 := cell_after (a := ⟨w.heap.size + 1 + 1, 0, none⟩) (v := .bool false) hb (by simp) (by simp [go_sem])
  have f0 := frozen_after (a := ⟨w.heap.size + 1, 0, none⟩) hb (by simp) (by simp [go_sem])
  have f1 := frozen_after (a := ⟨w.heap.size + 1 + 1, 0, none⟩) hb (by simp) (by simp [go_sem])
  have hz : w.heap.size + 1 + 1 < w1.heap.size := by have := hb.size; simp at this; omega
  have hz1 : w.heap.size + 1 < w1.heap.size := by omega
  have HB : Below w.heap.size w w1 := bel_trans (by exact (by repeat (first | exact Below.refl _ _ | assumption | refine bel_drew ?_ | refine bel_drewN ?_ _ | refine bel_alloc ?_ _ | refine bel_set ?_ (by first | (dsimp only; omega) | (simp; done) | (simp; omega)) _ | refine bel_trans ?_ (by assumption)))) hb
  replace HB := Lib.hid HB
  clear hb
  go_wp2_with fail
  refine leaves_cons (f := 93) (args := #[.pointer (some ⟨w.heap.size + 1, 0, none⟩), .pointer (some ⟨w.heap.size + 1 + 1, 0, none⟩)]) (by simp) (by simp [go_sem]) ?_
  refine (told_idle _ _ _).mono ?_
  rintro e u' w'' ⟨rfl, rfl, rfl⟩
  have s0 := World.cell?_setCell_same w1 ⟨w.heap.size + 1, 0, none⟩ (.int .i64 n) q0
  have s1 := (World.cell?_setCell_other w1 ⟨w.heap.size + 1, 0, none⟩ ⟨w.heap.size + 1 + 1, 0, none⟩ (.int .i64 n) (by simp)).trans q1
  have s2 := World.cell?_setCell_same _ ⟨w.heap.size + 1 + 1, 0, none⟩ (.bool true) s1
  simp [Leaves, settle, results, Try.results70, go_sem, s0, s2]
  have hb2 := HB.out
  exact (by repeat (first | exact Below.refl _ _ | assumption | refine bel_drew ?_ | refine bel_drewN ?_ _ | refine bel_alloc ?_ _ | refine bel_set ?_ (by first | (dsimp only; omega) | (simp; done) | (simp; omega)) _ | refine bel_trans ?_ (by assumption)))

set_option maxRecDepth 100000 in
set_option maxHeartbeats 1000000 in
theorem told_over_p (F : FuncId) (c : PBd.Case) (bp : Nat) (w : World) (h : c.right)
    (hcf : ∀ w, (callFunc F #[.pointer (some ⟨bp, 0, none⟩)]).run Try.prog w = .ok (.enter F #[.pointer (some ⟨bp, 0, none⟩)]) w) (hF : ∀ W, Below w.heap.size w W → Calls Try.prog F #[.pointer (some ⟨bp, 0, none⟩)] W fun e w' => Over e ∧ Below W.heap.size W w') :
    Calls Try.prog 70 #[caseV c, .func (.func F) #[] #[.pointer (some ⟨bp, 0, none⟩)]] w fun e w' => e = .returned (.tuple #[.int .i64 0, .bool false]) ∧ Below w.heap.size w w' := by
  have R := fun W => bound_Right c W
  rw [decide_eq_true h] at R
  replace R := Lib.hid R
  replace hF := Lib.hid hF
  clear h
  unfold caseV caseBox at R
  unfold caseV
  have hmf : ∀ (fn : Fn) (first cap : Array Value) (w : World), (Instr.makeFunc fn first cap).run Try.prog w = .ok (.func fn first cap) w := fun _ _ _ _ => rfl
  go_enter_defers Try.func70, Try.ntmps70
  go_wp2_with fail
  refine (R.out _).mono ?_
  rintro e w1 ⟨rfl, rfl⟩
  go_wp2_with fail
  refine (hF.out _ (by repeat (first | exact Below.refl _ _ | assumption | refine bel_drew ?_ | refine bel_drewN ?_ _ | refine bel_alloc ?_ _ | refine bel_set ?_ (by first | (dsimp only; omega) | (simp; done) | (simp; omega)) _ | refine bel_trans ?_ (by assumption)))).mono ?_
  rintro e w1 ⟨he, hb⟩
  obtain rfl := he
  have q0 := cell_after (a := ⟨w.heap.size + 1, 0, none⟩) (v := .int .i64 0) hb (by simp) (by simp [go_sem])
  have q1 := cell_after (a := ⟨w.heap.size + 1 + 1, 0, none⟩) (v := .bool false) hb (by simp) (by simp [go_sem])
  have f0 := frozen_after (a := ⟨w.heap.size + 1, 0, none⟩) hb (by simp) (by simp [go_sem])
  have f1 := frozen_after (a := ⟨w.heap.size + 1 + 1, 0, none⟩) hb (by simp) (by simp [go_sem])
  have hz : w.heap.size + 1 + 1 < w1.heap.size := by have := hb.size; simp at this; omega
  have hz1 : w.heap.size + 1 < w1.heap.size := by omega
  have HB : Below w.heap.size w w1 := bel_trans (by exact (by repeat (first | exact Below.refl _ _ | assumption | refine bel_drew ?_ | refine bel_drewN ?_ _ | refine bel_alloc ?_ _ | refine bel_set ?_ (by first | (dsimp only; omega) | (simp; done) | (simp; omega)) _ | refine bel_trans ?_ (by assumption)))) hb
  replace HB := Lib.hid HB
  clear hb
  go_wp2_with fail
  refine leaves_cons (f := 93) (args := #[.pointer (some ⟨w.heap.size + 1, 0, none⟩), .pointer (some ⟨w.heap.size + 1 + 1, 0, none⟩)]) (by simp) (by simp [go_sem]) ?_
  refine (told_over _ _ 0 false _ q0 q1 f0 f1 hz1 hz (by omega)).mono ?_
  rintro e u' w'' ⟨rfl, rfl, rfl⟩
  have s0 := World.cell?_setCell_same w1 ⟨w.heap.size + 1, 0, none⟩ (.int .i64 0) q0
  have s1 := (World.cell?_setCell_other w1 ⟨w.heap.size + 1, 0, none⟩ ⟨w.heap.size + 1 + 1, 0, none⟩ (.int .i64 0) (by simp)).trans q1
  have s2 := cell_alloc (.cells #[] 102) (by simp; omega) (World.cell?_setCell_same _ ⟨w.heap.size + 1 + 1, 0, none⟩ (.bool false) s1)
  have s3 := cell_alloc (.cells #[] 102) (by simp; omega) ((World.cell?_setCell_other (w1.setCell ⟨w.heap.size + 1, 0, none⟩ (.int .i64 0)) ⟨w.heap.size + 1 + 1, 0, none⟩ ⟨w.heap.size + 1, 0, none⟩ (.bool false) (by simp)).trans s0)
  simp [Leaves, settle, results, Try.results70, go_sem, s2, s3]
  have hb2 := HB.out
  exact (by repeat (first | exact Below.refl _ _ | assumption | refine bel_drew ?_ | refine bel_drewN ?_ _ | refine bel_alloc ?_ _ | refine bel_set ?_ (by first | (dsimp only; omega) | (simp; done) | (simp; omega)) _ | refine bel_trans ?_ (by assumption)))
end Go.Proofs.Ytfgfnfjeopjbgaa
