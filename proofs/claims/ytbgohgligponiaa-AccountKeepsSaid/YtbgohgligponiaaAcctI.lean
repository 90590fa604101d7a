/-
  The walk of the law AccountKeeps.
-/
import Derived.Test.YtbgohgligponiaaAcctF
import Derived.Test.YtbgohgligponiaaFrame2
import Derived.Test.YtbgohgligponiaaBase3
import Derived.IntWalk
import Derived.Deep.RegionHeld3
import Derived.Deep.DeepCutAuto
namespace Go.Proofs.Ytbgohgligponiaa
open Go.RowKit
set_option linter.unusedVariables false
attribute [local go_sem] drewN_alloc drewN_setCell

theorem PA_keeps {q c h r n : Int} (q1 : 1 ≤ q) (q2 : q ≤ 4) (hr : PA.right c h r = true) (h0 : (PA.doo q c h r n).2 = 0) :
    (PA.doo q c h r n).1.1 = c ∧ PA.right c (PA.doo q c h r n).1.2.1 (PA.doo q c h r n).1.2.2 = true := by
  have hi := (PA.right_iff c h r).1 hr
  by_cases n1 : 1 ≤ n
  · have hq : q = 1 ∨ q = 2 ∨ q = 3 ∨ q = 4 := by omega
    rcases hq with rfl | rfl | rfl | rfl
    · by_cases hy : n ≤ c - h - r
      · rw [PA.doo1_yes hr n1 hy]; exact ⟨rfl, (PA.right_iff _ _ _).2 (by dsimp only; omega)⟩
      · rw [PA.doo1_no hr n1 (by omega)] at h0; exact absurd h0 (by decide)
    · by_cases hy : n ≤ r
      · rw [PA.doo2_yes hr n1 hy]; exact ⟨rfl, (PA.right_iff _ _ _).2 (by dsimp only; omega)⟩
      · rw [PA.doo2_no hr n1 (by omega)] at h0; exact absurd h0 (by decide)
    · by_cases hy : n ≤ r
      · rw [PA.doo3_yes hr n1 hy]; exact ⟨rfl, (PA.right_iff _ _ _).2 (by dsimp only; omega)⟩
      · rw [PA.doo3_no hr n1 (by omega)] at h0; exact absurd h0 (by decide)
    · by_cases hy : n ≤ h
      · rw [PA.doo4_yes hr n1 hy]; exact ⟨rfl, (PA.right_iff _ _ _).2 (by dsimp only; omega)⟩
      · rw [PA.doo4_no hr n1 (by omega)] at h0; exact absurd h0 (by decide)
  · rw [PA.doo_arg (Or.inr (by omega))] at h0; exact absurd h0 (by decide)

theorem law26_one (q c h r n : Int) (w : World) (q1 : 1 ≤ q) (q2 : q ≤ 4) (bc : -9223372036854775808 ≤ c ∧ c ≤ 9223372036854775807) (bh : -9223372036854775808 ≤ h ∧ h ≤ 9223372036854775807) (br : -9223372036854775808 ≤ r ∧ r ≤ 9223372036854775807) (bn : -9223372036854775808 ≤ n ∧ n ≤ 9223372036854775807) :
    Calls Try.prog 20 #[.int .i64 q, .agg #[.int .i64 c, .int .i64 h, .int .i64 r], .int .i64 n] w fun e w' =>
      e = .returned (.tuple #[.agg #[.int .i64 (PA.doo q c h r n).1.1, .int .i64 (PA.doo q c h r n).1.2.1, .int .i64 (PA.doo q c h r n).1.2.2], .int .i64 (PA.doo q c h r n).2]) ∧ Below w.heap.size w w' := by
  have hq : q = 1 ∨ q = 2 ∨ q = 3 ∨ q = 4 := by omega
  rcases hq with rfl | rfl | rfl | rfl
  · exact law26_one1 c h r n w bc bh br bn
  · exact law26_one2 c h r n w bc bh br bn
  · exact law26_one3 c h r n w bc bh br bn
  · exact law26_one4 c h r n w bc bh br bn

theorem keepQ (x : Int) : ∃ q : Int, IntKind.i64.wrap (1 + IntKind.i64.wrap ((IntKind.u64.wrap x).tmod 4)) = q ∧ 1 ≤ q ∧ q ≤ 4 := by
  refine ⟨_, rfl, ?_⟩
  have h0 : 0 ≤ IntKind.u64.wrap x := by rw [IntKind.wrap_u64]; omega
  rw [Int.tmod_eq_emod_of_nonneg h0, IntKind.wrap_i64, IntKind.wrap_i64]
  omega

theorem post_name {Q : Exit → Act → World → Prop} {e : Exit} {a : Act} {w : World} (h : ∀ W, W = w → Q e a W) : Q e a w := h w rfl

/-- What holds behind the call in a round. -/
def KeepCut (c h r : Int) (v : (Int × Int × Int) × Int) (w : World) (B : Nat) (s8 s9 : Value) (wx : World) : Prop :=
  ∃ g : Nat, s8 = .pointer (some ⟨g, 0, none⟩) ∧ s9 = .int .i64 v.2 ∧ B < wx.heap.size ∧ g < wx.heap.size ∧ g ≠ B ∧ Below w.heap.size w wx ∧
    (wx.cell? ⟨B, 0, none⟩ = some (.int .i64 c) ∧ wx.cell? ⟨B, 1, none⟩ = some (.int .i64 h) ∧ wx.cell? ⟨B, 2, none⟩ = some (.int .i64 r)) ∧
    (wx.frozen? ⟨B, 0, none⟩ = false ∧ wx.frozen? ⟨B, 1, none⟩ = false ∧ wx.frozen? ⟨B, 2, none⟩ = false) ∧
    (wx.cell? ⟨g, 0, none⟩ = some (.int .i64 v.1.1) ∧ wx.cell? ⟨g, 1, none⟩ = some (.int .i64 v.1.2.1) ∧ wx.cell? ⟨g, 2, none⟩ = some (.int .i64 v.1.2.2))

/-- What holds at the head of the loop. -/
def KeepRel (claim : Int) (w : World) (B len : Nat) (i : Value) (wr : World) : Prop :=
  ∃ (k : Nat) (h r : Int), k ≤ len ∧ i = .int .i64 k ∧ PA.right claim h r = true ∧ B < wr.heap.size ∧ w.heap.size ≤ B ∧ Below w.heap.size w wr ∧
    (wr.cell? ⟨B, 0, none⟩ = some (.int .i64 claim) ∧ wr.cell? ⟨B, 1, none⟩ = some (.int .i64 h) ∧ wr.cell? ⟨B, 2, none⟩ = some (.int .i64 r)) ∧
    (wr.frozen? ⟨B, 0, none⟩ = false ∧ wr.frozen? ⟨B, 1, none⟩ = false ∧ wr.frozen? ⟨B, 2, none⟩ = false)

set_option maxHeartbeats 1000000 in
theorem law26_AccountKeeps_long (c : Int) (a : Option Addr) (len cap : Nat) (w : World) (hl : 60 < (len : Int)) (hm : len ≤ 9223372036854775807) :
    Calls Try.prog 6 #[.int .i64 c, .slice a len cap] w fun e w' => e = .returned (.bool true) ∧ Below w.heap.size w w' := by
  go_enter Try.func6, Try.ntmps6
  go_wp2_with fail
  refine (law26_works _).mono ?_
  rintro e w1 ⟨rfl, k1⟩
  have z1 := k1.size
  try simp only [World.heap_drewN] at z1
  try simp only [World.size_alloc] at z1
  have tw1 : w.heap.size ≤ w1.heap.size := by omega
  have K1 : Below w.heap.size w w1 := (by repeat (first | exact Below.refl _ _ | assumption | refine bel_drew ?_ | refine bel_drewN ?_ _ | refine bel_alloc ?_ _ | refine bel_set ?_ (by first | (dsimp only; omega) | (simp; done) | (simp; omega)) _ | refine bel_trans ?_ (by assumption)))
  clear k1 z1
  go_wp2_with fail
  go_ret
  exact ⟨rfl, (by repeat (first | exact Below.refl _ _ | assumption | refine bel_drew ?_ | refine bel_drewN ?_ _ | refine bel_alloc ?_ _ | refine bel_set ?_ (by first | (dsimp only; omega) | (simp; done) | (simp; omega)) _ | refine bel_trans ?_ (by assumption)))⟩
  
set_option maxHeartbeats 1000000 in
theorem law26_AccountKeeps_bad (c : Int) (a : Option Addr) (len cap : Nat) (w : World) (hl : (len : Int) ≤ 60) (bc : -9223372036854775808 ≤ c ∧ c ≤ 9223372036854775807) (hb : c < 1 ∨ 1048576 < c) :
    Calls Try.prog 6 #[.int .i64 c, .slice a len cap] w fun e w' => e = .returned (.bool true) ∧ Below w.heap.size w w' := by
  have d1 := fun W => account_New c W bc
  have e1 : PA.new c = ((0, 0, 0), 2) := by unfold PA.new; rw [if_pos hb]
  rw [e1] at d1
  have D1 := Lib.hid d1
  clear d1 e1
  rcases hb with hb | hb
  · go_enter Try.func6, Try.ntmps6
    go_wp2_with fail
    refine (D1.out _).mono ?_
    rintro e w1 ⟨rfl, k1⟩
    have z1 := k1.size
    try simp only [World.heap_drewN] at z1
    try simp only [World.size_alloc] at z1
    have tw1 : w.heap.size ≤ w1.heap.size := by omega
    have K1 : Below w.heap.size w w1 := (by repeat (first | exact Below.refl _ _ | assumption | refine bel_drew ?_ | refine bel_drewN ?_ _ | refine bel_alloc ?_ _ | refine bel_set ?_ (by first | (dsimp only; omega) | (simp; done) | (simp; omega)) _ | refine bel_trans ?_ (by assumption)))
    clear k1 z1
    go_wp2_with fail
    refine (law26_works _).mono ?_
    rintro e w2 ⟨rfl, k2⟩
    have q2_0_0 := cell_after (a := ⟨w1.heap.size, 0, none⟩) (v := .int .i64 0) k2 (by first | (dsimp only; omega) | (simp; done) | (simp; omega)) (by first | assumption | exact cell_alloc _ (by dsimp only; omega) (by assumption) | (simp [go_sem]; done) | exact cell_alloc _ (by simp; omega) (cell_alloc _ (by dsimp only; omega) (by assumption)))
    have f2_0_0 := frozen_after (a := ⟨w1.heap.size, 0, none⟩) k2 (by first | (dsimp only; omega) | (simp; done) | (simp; omega)) (by first | assumption | exact frozen_alloc _ (by dsimp only; omega) (by assumption) | (simp [go_sem]; done) | exact frozen_alloc _ (by simp; omega) (frozen_alloc _ (by dsimp only; omega) (by assumption)))
    have q2_0_1 := cell_after (a := ⟨w1.heap.size, 1, none⟩) (v := .int .i64 0) k2 (by first | (dsimp only; omega) | (simp; done) | (simp; omega)) (by first | assumption | exact cell_alloc _ (by dsimp only; omega) (by assumption) | (simp [go_sem]; done) | exact cell_alloc _ (by simp; omega) (cell_alloc _ (by dsimp only; omega) (by assumption)))
    have f2_0_1 := frozen_after (a := ⟨w1.heap.size, 1, none⟩) k2 (by first | (dsimp only; omega) | (simp; done) | (simp; omega)) (by first | assumption | exact frozen_alloc _ (by dsimp only; omega) (by assumption) | (simp [go_sem]; done) | exact frozen_alloc _ (by simp; omega) (frozen_alloc _ (by dsimp only; omega) (by assumption)))
    have q2_0_2 := cell_after (a := ⟨w1.heap.size, 2, none⟩) (v := .int .i64 0) k2 (by first | (dsimp only; omega) | (simp; done) | (simp; omega)) (by first | assumption | exact cell_alloc _ (by dsimp only; omega) (by assumption) | (simp [go_sem]; done) | exact cell_alloc _ (by simp; omega) (cell_alloc _ (by dsimp only; omega) (by assumption)))
    have f2_0_2 := frozen_after (a := ⟨w1.heap.size, 2, none⟩) k2 (by first | (dsimp only; omega) | (simp; done) | (simp; omega)) (by first | assumption | exact frozen_alloc _ (by dsimp only; omega) (by assumption) | (simp [go_sem]; done) | exact frozen_alloc _ (by simp; omega) (frozen_alloc _ (by dsimp only; omega) (by assumption)))
    have z2 := k2.size
    try simp only [World.heap_drewN] at z2
    try simp only [World.size_alloc] at z2
    have t2_0 : w1.heap.size < w2.heap.size := by omega
    have tw2 : w.heap.size ≤ w2.heap.size := by omega
    have K2 : Below w.heap.size w w2 := (by repeat (first | exact Below.refl _ _ | assumption | refine bel_drew ?_ | refine bel_drewN ?_ _ | refine bel_alloc ?_ _ | refine bel_set ?_ (by first | (dsimp only; omega) | (simp; done) | (simp; omega)) _ | refine bel_trans ?_ (by assumption)))
    clear k2 z2 tw1 K1
    go_wp2_with fail
    go_ret
    exact ⟨rfl, (by repeat (first | exact Below.refl _ _ | assumption | refine bel_drew ?_ | refine bel_drewN ?_ _ | refine bel_alloc ?_ _ | refine bel_set ?_ (by first | (dsimp only; omega) | (simp; done) | (simp; omega)) _ | refine bel_trans ?_ (by assumption)))⟩
  · have hb' : 1 ≤ c := by omega
    go_enter Try.func6, Try.ntmps6
    go_wp2_with fail
    refine (D1.out _).mono ?_
    rintro e w1 ⟨rfl, k1⟩
    have z1 := k1.size
    try simp only [World.heap_drewN] at z1
    try simp only [World.size_alloc] at z1
    have tw1 : w.heap.size ≤ w1.heap.size := by omega
    have K1 : Below w.heap.size w w1 := (by repeat (first | exact Below.refl _ _ | assumption | refine bel_drew ?_ | refine bel_drewN ?_ _ | refine bel_alloc ?_ _ | refine bel_set ?_ (by first | (dsimp only; omega) | (simp; done) | (simp; omega)) _ | refine bel_trans ?_ (by assumption)))
    clear k1 z1
    go_wp2_with fail
    refine (law26_works _).mono ?_
    rintro e w2 ⟨rfl, k2⟩
    have q2_0_0 := cell_after (a := ⟨w1.heap.size, 0, none⟩) (v := .int .i64 0) k2 (by first | (dsimp only; omega) | (simp; done) | (simp; omega)) (by first | assumption | exact cell_alloc _ (by dsimp only; omega) (by assumption) | (simp [go_sem]; done) | exact cell_alloc _ (by simp; omega) (cell_alloc _ (by dsimp only; omega) (by assumption)))
    have f2_0_0 := frozen_after (a := ⟨w1.heap.size, 0, none⟩) k2 (by first | (dsimp only; omega) | (simp; done) | (simp; omega)) (by first | assumption | exact frozen_alloc _ (by dsimp only; omega) (by assumption) | (simp [go_sem]; done) | exact frozen_alloc _ (by simp; omega) (frozen_alloc _ (by dsimp only; omega) (by assumption)))
    have q2_0_1 := cell_after (a := ⟨w1.heap.size, 1, none⟩) (v := .int .i64 0) k2 (by first | (dsimp only; omega) | (simp; done) | (simp; omega)) (by first | assumption | exact cell_alloc _ (by dsimp only; omega) (by assumption) | (simp [go_sem]; done) | exact cell_alloc _ (by simp; omega) (cell_alloc _ (by dsimp only; omega) (by assumption)))
    have f2_0_1 := frozen_after (a := ⟨w1.heap.size, 1, none⟩) k2 (by first | (dsimp only; omega) | (simp; done) | (simp; omega)) (by first | assumption | exact frozen_alloc _ (by dsimp only; omega) (by assumption) | (simp [go_sem]; done) | exact frozen_alloc _ (by simp; omega) (frozen_alloc _ (by dsimp only; omega) (by assumption)))
    have q2_0_2 := cell_after (a := ⟨w1.heap.size, 2, none⟩) (v := .int .i64 0) k2 (by first | (dsimp only; omega) | (simp; done) | (simp; omega)) (by first | assumption | exact cell_alloc _ (by dsimp only; omega) (by assumption) | (simp [go_sem]; done) | exact cell_alloc _ (by simp; omega) (cell_alloc _ (by dsimp only; omega) (by assumption)))
    have f2_0_2 := frozen_after (a := ⟨w1.heap.size, 2, none⟩) k2 (by first | (dsimp only; omega) | (simp; done) | (simp; omega)) (by first | assumption | exact frozen_alloc _ (by dsimp only; omega) (by assumption) | (simp [go_sem]; done) | exact frozen_alloc _ (by simp; omega) (frozen_alloc _ (by dsimp only; omega) (by assumption)))
    have z2 := k2.size
    try simp only [World.heap_drewN] at z2
    try simp only [World.size_alloc] at z2
    have t2_0 : w1.heap.size < w2.heap.size := by omega
    have tw2 : w.heap.size ≤ w2.heap.size := by omega
    have K2 : Below w.heap.size w w2 := (by repeat (first | exact Below.refl _ _ | assumption | refine bel_drew ?_ | refine bel_drewN ?_ _ | refine bel_alloc ?_ _ | refine bel_set ?_ (by first | (dsimp only; omega) | (simp; done) | (simp; omega)) _ | refine bel_trans ?_ (by assumption)))
    clear k2 z2 tw1 K1
    go_wp2_with fail
    go_ret
    exact ⟨rfl, (by repeat (first | exact Below.refl _ _ | assumption | refine bel_drew ?_ | refine bel_drewN ?_ _ | refine bel_alloc ?_ _ | refine bel_set ?_ (by first | (dsimp only; omega) | (simp; done) | (simp; omega)) _ | refine bel_trans ?_ (by assumption)))⟩
    
set_option maxRecDepth 100000 in
set_option maxHeartbeats 4000000 in
theorem law26_AccountKeeps_ok (c : Int) (b off len cap : Nat) (F : Nat → Nat → Int) (w : World) (hl : (len : Int) ≤ 60) (bc : -9223372036854775808 ≤ c ∧ c ≤ 9223372036854775807) (g1 : 1 ≤ c) (g2 : c ≤ 1048576) (hlc : len ≤ cap) (hm : cap ≤ 9223372036854775807) (hbw : 0 < len → b < w.heap.size)
    (hcell : ∀ i, i < cap → ∀ j, j < 2 → w.cell? ⟨b, off + i * 2 + j, none⟩ = some (.int .i64 (F i j)) ∧ -9223372036854775808 ≤ F i j ∧ F i j ≤ 9223372036854775807) :
    Calls Try.prog 6 #[.int .i64 c, .slice (some ⟨b, off, none⟩) len cap] w fun e w' => e = .returned (.bool true) ∧ Below w.heap.size w w' := by
  have d1 := fun W => account_New c W bc
  have e1 : PA.new c = ((c, 0, 0), 0) := by unfold PA.new; rw [if_neg (by omega)]
  rw [e1] at d1
  have D1 := Lib.hid d1
  have HC := Lib.hid hcell
  clear d1 e1 hcell
  go_enter Try.func6, Try.ntmps6
  go_wp2_with fail
  refine (D1.out _).mono ?_
  rintro e w1 ⟨rfl, k1⟩
  have z1 := k1.size
  try simp only [World.heap_drewN] at z1
  try simp only [World.size_alloc] at z1
  have tw1 : w.heap.size ≤ w1.heap.size := by omega
  have K1 : Below w.heap.size w w1 := (by repeat (first | exact Below.refl _ _ | assumption | refine bel_drew ?_ | refine bel_drewN ?_ _ | refine bel_alloc ?_ _ | refine bel_set ?_ (by first | (dsimp only; omega) | (simp; done) | (simp; omega)) _ | refine bel_trans ?_ (by assumption)))
  clear k1 z1
  go_wp2_with fail
  go_loopw [7] (fun i wr => KeepRel c w w1.heap.size len i wr) (fun i _ => len - (intOf i).toNat)
  case atStart => exact ⟨0, 0, 0, Nat.zero_le _, rfl, (PA.right_iff _ _ _).2 (by omega), by simp, by omega, (by repeat (first | exact Below.refl _ _ | assumption | refine bel_drew ?_ | refine bel_drewN ?_ _ | refine bel_alloc ?_ _ | refine bel_set ?_ (by first | (dsimp only; omega) | (simp; done) | (simp; omega)) _ | refine bel_trans ?_ (by assumption))), by simp [go_sem], by simp [go_sem]⟩
  case round =>
    obtain ⟨k, h, r, hk, rfl, hr, hB, hB0, hbel, ⟨q0, q1, q2⟩, ⟨f0, f1, f2⟩⟩ := hrel
    by_cases hlt : (k : Int) < len
    · obtain ⟨x0, x1, x2⟩ := HC.out k (by omega) 0 (by omega)
      obtain ⟨y0, y1, y2⟩ := HC.out k (by omega) 1 (by omega)
      simp only [Nat.add_zero] at x0
      have hbw' := hbw (by omega)
      have i1 : h ≤ 1048576 ∧ 0 ≤ h ∧ r ≤ 1048576 ∧ 0 ≤ r := by have := (PA.right_iff _ _ _).1 hr; omega
      obtain ⟨i1, i2, i3, i4⟩ := i1
      have xr : wr.cell? ⟨b, off + k * 2, none⟩ = some (.int .i64 (F k 0)) := (hbel.cell hbw').trans x0
      have yr : wr.cell? ⟨b, off + k * 2 + 1, none⟩ = some (.int .i64 (F k 1)) := (hbel.cell hbw').trans y0
      have j1 : (0 : Int) ≤ (k : Int) := by omega
      have hblt : b < wr.heap.size := by have := hbel.size; omega
      have HR := Lib.hid hr
      have KS : ∀ w', Below wr.heap.size wr w' → (Below wr.heap.size wr w' ∧ w'.cell? ⟨b, off + k * 2, none⟩ = some (.int .i64 (F k 0)) ∧ w'.cell? ⟨b, off + k * 2 + 1, none⟩ = some (.int .i64 (F k 1)) ∧ w'.cell? ⟨w1.heap.size, 0, none⟩ = some (.int .i64 c) ∧ w'.cell? ⟨w1.heap.size, 1, none⟩ = some (.int .i64 h) ∧ w'.cell? ⟨w1.heap.size, 2, none⟩ = some (.int .i64 r)) :=
        fun w' hb => ⟨hb, (hb.cell hblt).trans xr, (hb.cell hblt).trans yr, (hb.cell hB).trans q0, (hb.cell hB).trans q1, (hb.cell hB).trans q2⟩
      have HKS := Lib.hid KS
      obtain ⟨q, hq, hq1, hq2⟩ := keepQ (F k 0)
      clear KS xr yr x0 y0 hr
      go_upto_region 9 with fail
      go_cut [8, 9] (fun s8 s9 wx => KeepCut c h r (PA.doo q c h r (F k 1)) w w1.heap.size s8 s9 wx)
      case first =>
        go_region_held3 (fun w' => Below wr.heap.size wr w' ∧ w'.cell? ⟨b, off + k * 2, none⟩ = some (.int .i64 (F k 0)) ∧ w'.cell? ⟨b, off + k * 2 + 1, none⟩ = some (.int .i64 (F k 1)) ∧ w'.cell? ⟨w1.heap.size, 0, none⟩ = some (.int .i64 c) ∧ w'.cell? ⟨w1.heap.size, 1, none⟩ = some (.int .i64 h) ∧ w'.cell? ⟨w1.heap.size, 2, none⟩ = some (.int .i64 r))
          (exact HKS.out _ (by repeat (first | exact Below.refl _ _ | assumption | refine bel_drew ?_ | refine bel_drewN ?_ _ | refine bel_alloc ?_ _ | refine bel_set ?_ (by first | (dsimp only; omega) | (simp; done) | (simp; omega)) _ | refine bel_trans ?_ (by assumption))))
          (first | (go_at_call 20; refine (law26_one q c h r (F k 1) _ hq1 hq2 bc (by omega) (by omega) ⟨y1, y2⟩).mono ?_; rintro e w5 ⟨rfl, h5⟩; obtain ⟨c5, f5⟩ := bel_cells h5))
        · clear c5 f5
          go_wp2_with fail
          go_meet
          have hh := (show Below wr.heap.size wr w5 from (by repeat (first | exact Below.refl _ _ | assumption | refine bel_drew ?_ | refine bel_drewN ?_ _ | refine bel_alloc ?_ _ | refine bel_set ?_ (by first | (dsimp only; omega) | (simp; done) | (simp; omega)) _ | refine bel_trans ?_ (by assumption))))
          have z5 := hh.size
          exact ⟨_, rfl, rfl, by simp; omega, by simp, by omega, bel_alloc (bel_trans hbel hh) _,
            ⟨cell_alloc _ (by dsimp only; omega) ((hh.cell hB).trans q0), cell_alloc _ (by dsimp only; omega) ((hh.cell hB).trans q1), cell_alloc _ (by dsimp only; omega) ((hh.cell hB).trans q2)⟩,
            ⟨frozen_alloc _ (by dsimp only; omega) ((hh.frozen hB).trans f0), frozen_alloc _ (by dsimp only; omega) ((hh.frozen hB).trans f1), frozen_alloc _ (by dsimp only; omega) ((hh.frozen hB).trans f2)⟩,
            ⟨by simp [go_sem], by simp [go_sem], by simp [go_sem]⟩⟩
        · clear c5 f5
          go_wp2_with fail
          go_meet
          have hh := (show Below wr.heap.size wr w5 from (by repeat (first | exact Below.refl _ _ | assumption | refine bel_drew ?_ | refine bel_drewN ?_ _ | refine bel_alloc ?_ _ | refine bel_set ?_ (by first | (dsimp only; omega) | (simp; done) | (simp; omega)) _ | refine bel_trans ?_ (by assumption))))
          have z5 := hh.size
          have z6 : wr.heap.size < w5.heap.size := by have := h5.size; simp at this; omega
          have hne : wr.heap.size ≠ w1.heap.size := by omega
          have v0 := cell_after (a := ⟨wr.heap.size, 0, none⟩) (v := .int .i64 0) h5 (by simp) (by simp [go_sem])
          have v1 := cell_after (a := ⟨wr.heap.size, 1, none⟩) (v := .int .i64 0) h5 (by simp) (by simp [go_sem])
          have v2 := cell_after (a := ⟨wr.heap.size, 2, none⟩) (v := .int .i64 0) h5 (by simp) (by simp [go_sem])
          exact ⟨wr.heap.size, rfl, rfl, by simp; omega, by simp; omega, by omega, bel_trans hbel (by repeat (first | exact Below.refl _ _ | assumption | refine bel_drew ?_ | refine bel_drewN ?_ _ | refine bel_alloc ?_ _ | refine bel_set ?_ (by first | (dsimp only; omega) | (simp; done) | (simp; omega)) _ | refine bel_trans ?_ (by assumption))),
            ⟨by simp [World.cell?_setCell_far, hne]; exact (hh.cell hB).trans q0, by simp [World.cell?_setCell_far, hne]; exact (hh.cell hB).trans q1, by simp [World.cell?_setCell_far, hne]; exact (hh.cell hB).trans q2⟩,
            ⟨by simp; exact (hh.frozen hB).trans f0, by simp; exact (hh.frozen hB).trans f1, by simp; exact (hh.frozen hB).trans f2⟩,
            ⟨by simp [go_sem, v0], by simp [go_sem, v1], by simp [go_sem, v2]⟩⟩
      case rest =>
        obtain ⟨g8, rfl, rfl, e1, e2, e3, e4, ⟨a0, a1, a2⟩, ⟨b0, b1, b2⟩, ⟨c0, c1, c2⟩⟩ := hcut
        clear HKS
        by_cases h0 : (PA.doo q c h r (F k 1)).2 = 0
        · obtain ⟨m1, m2⟩ := PA_keeps hq1 hq2 HR.out h0
          generalize PA.doo q c h r (F k 1) = v at *
          obtain ⟨⟨vc, vh, vr⟩, ve⟩ := v
          dsimp only at h0 m1 m2 c0 c1 c2 ⊢
          subst h0
          obtain rfl := m1.symm
          have HR2 := Lib.hid m2
          clear m2
          go_wp2_with fail
          refine region_name ?_
          intro W hW
          have p0 : W.cell? ⟨w1.heap.size, 0, none⟩ = some (.int .i64 c) := by rw [hW]; simp [go_sem, *]
          have p1 : W.cell? ⟨w1.heap.size, 1, none⟩ = some (.int .i64 vh) := by rw [hW]; simp [go_sem, *]
          have p2 : W.cell? ⟨w1.heap.size, 2, none⟩ = some (.int .i64 vr) := by rw [hW]; simp [go_sem, *]
          have g0 : W.frozen? ⟨w1.heap.size, 0, none⟩ = false := by rw [hW]; simp [go_sem, *]
          have g1' : W.frozen? ⟨w1.heap.size, 1, none⟩ = false := by rw [hW]; simp [go_sem, *]
          have g2' : W.frozen? ⟨w1.heap.size, 2, none⟩ = false := by rw [hW]; simp [go_sem, *]
          have lB : w1.heap.size < W.heap.size := by rw [hW]; first | assumption | (simp; done) | (simp; omega)
          have hWB : Below w.heap.size w W := by rw [hW]; exact (by repeat (first | exact Below.refl _ _ | assumption | refine bel_drew ?_ | refine bel_drewN ?_ _ | refine bel_alloc ?_ _ | refine bel_set ?_ (by first | (dsimp only; omega) | (simp; done) | (simp; omega)) _ | refine bel_trans ?_ (by assumption)))
          clear hW e1 e2 e3 e4 a0 a1 a2 b0 b1 b2 c0 c1 c2
          have hi := (PA.right_iff _ _ _).1 HR2.out
          have o1 : PA.right c vh vr = true := HR2.out
          have o2 : PA.need c vh vr = c - vh := by unfold PA.need; rw [if_pos o1]
          have o3 : PA.room c vh vr = c - vh - vr := by unfold PA.room; rw [if_pos o1]
          have o4 : IntKind.i64.wrap (vh + vr) = vh + vr := IntWalk.i64_in _ (by omega)
          have o5 : IntKind.i64.wrap (c - vh) = c - vh := IntWalk.i64_in _ (by omega)
          have o6 : IntKind.i64.wrap (c - vh - vr) = c - vh - vr := IntWalk.i64_in _ (by omega)
          have o7 : decide (c < vh + vr) = false := by simp; omega
          have o8 : -9223372036854775808 ≤ vh ∧ vh ≤ 9223372036854775807 := by omega
          have o9 : -9223372036854775808 ≤ vr ∧ vr ≤ 9223372036854775807 := by omega
          have KS2 : ∀ w', Below W.heap.size W w' → (Below W.heap.size W w' ∧ w'.cell? ⟨w1.heap.size, 0, none⟩ = some (.int .i64 c) ∧ w'.cell? ⟨w1.heap.size, 1, none⟩ = some (.int .i64 vh) ∧ w'.cell? ⟨w1.heap.size, 2, none⟩ = some (.int .i64 vr)) :=
            fun w' hb => ⟨hb, (hb.cell lB).trans p0, (hb.cell lB).trans p1, (hb.cell lB).trans p2⟩
          have HKS2 := Lib.hid KS2
          have HG := Lib.hid (And.intro lB (And.intro hWB (And.intro (And.intro p0 (And.intro p1 p2)) (And.intro g0 (And.intro g1' g2')))))
          have HI := Lib.hid hi
          clear KS2 p0 p1 p2 g0 g1' g2' lB hWB hi
          go_region_held3 (fun w' => Below W.heap.size W w' ∧ w'.cell? ⟨w1.heap.size, 0, none⟩ = some (.int .i64 c) ∧ w'.cell? ⟨w1.heap.size, 1, none⟩ = some (.int .i64 vh) ∧ w'.cell? ⟨w1.heap.size, 2, none⟩ = some (.int .i64 vr))
            (exact HKS2.out _ (by repeat (first | exact Below.refl _ _ | assumption | refine bel_drew ?_ | refine bel_drewN ?_ _ | refine bel_alloc ?_ _ | refine bel_set ?_ (by first | (dsimp only; omega) | (simp; done) | (simp; omega)) _ | refine bel_trans ?_ (by assumption))))
            (first | (go_at_call 24; refine (account_Right c vh vr _ bc o8 o9).mono ?_; rintro e w5 ⟨rfl, h5⟩) | (go_at_call 26; refine (account_Need c vh vr _ bc o8 o9).mono ?_; rintro e w5 ⟨rfl, h5⟩) | (go_at_call 28; refine (account_Room c vh vr _ bc o8 o9).mono ?_; rintro e w5 ⟨rfl, h5⟩))
          clear o2 o3 o4 o5 o6 o7
          go_wp2_with fail
          go_roundw
          case rel =>
            have hh := (show Below W.heap.size W w5 from (by repeat (first | exact Below.refl _ _ | assumption | refine bel_drew ?_ | refine bel_drewN ?_ _ | refine bel_alloc ?_ _ | refine bel_set ?_ (by first | (dsimp only; omega) | (simp; done) | (simp; omega)) _ | refine bel_trans ?_ (by assumption))))
            obtain ⟨lB, hWB, ⟨p0, p1, p2⟩, g0, g1', g2'⟩ := HG.out
            have z5 := hh.size
            exact ⟨k + 1, vh, vr, by omega, by go_num, HR2.out, by omega, hB0, bel_trans hWB hh, ⟨(hh.cell lB).trans p0, (hh.cell lB).trans p1, (hh.cell lB).trans p2⟩, ⟨(hh.frozen lB).trans g0, (hh.frozen lB).trans g1', (hh.frozen lB).trans g2'⟩⟩
          case measure => simp [intOf]; omega
        · have h0b : ((PA.doo q c h r (F k 1)).2 == 0) = false := by simpa using h0
          clear h0
          have HR2 := Lib.hid HR.out
          go_wp2_with fail
          refine region_name ?_
          intro W hW
          have p0 : W.cell? ⟨w1.heap.size, 0, none⟩ = some (.int .i64 c) := by rw [hW]; assumption
          have p1 : W.cell? ⟨w1.heap.size, 1, none⟩ = some (.int .i64 h) := by rw [hW]; assumption
          have p2 : W.cell? ⟨w1.heap.size, 2, none⟩ = some (.int .i64 r) := by rw [hW]; assumption
          have g0 : W.frozen? ⟨w1.heap.size, 0, none⟩ = false := by rw [hW]; assumption
          have g1' : W.frozen? ⟨w1.heap.size, 1, none⟩ = false := by rw [hW]; assumption
          have g2' : W.frozen? ⟨w1.heap.size, 2, none⟩ = false := by rw [hW]; assumption
          have lB : w1.heap.size < W.heap.size := by rw [hW]; first | assumption | (simp; done) | (simp; omega)
          have hWB : Below w.heap.size w W := by rw [hW]; exact (by repeat (first | exact Below.refl _ _ | assumption | refine bel_drew ?_ | refine bel_drewN ?_ _ | refine bel_alloc ?_ _ | refine bel_set ?_ (by first | (dsimp only; omega) | (simp; done) | (simp; omega)) _ | refine bel_trans ?_ (by assumption)))
          clear hW e1 e2 e3 e4 a0 a1 a2 b0 b1 b2 c0 c1 c2
          have hi := (PA.right_iff _ _ _).1 HR2.out
          have o1 : PA.right c h r = true := HR2.out
          have o2 : PA.need c h r = c - h := by unfold PA.need; rw [if_pos o1]
          have o3 : PA.room c h r = c - h - r := by unfold PA.room; rw [if_pos o1]
          have o4 : IntKind.i64.wrap (h + r) = h + r := IntWalk.i64_in _ (by omega)
          have o5 : IntKind.i64.wrap (c - h) = c - h := IntWalk.i64_in _ (by omega)
          have o6 : IntKind.i64.wrap (c - h - r) = c - h - r := IntWalk.i64_in _ (by omega)
          have o7 : decide (c < h + r) = false := by simp; omega
          have o8 : -9223372036854775808 ≤ h ∧ h ≤ 9223372036854775807 := by omega
          have o9 : -9223372036854775808 ≤ r ∧ r ≤ 9223372036854775807 := by omega
          have KS2 : ∀ w', Below W.heap.size W w' → (Below W.heap.size W w' ∧ w'.cell? ⟨w1.heap.size, 0, none⟩ = some (.int .i64 c) ∧ w'.cell? ⟨w1.heap.size, 1, none⟩ = some (.int .i64 h) ∧ w'.cell? ⟨w1.heap.size, 2, none⟩ = some (.int .i64 r)) :=
            fun w' hb => ⟨hb, (hb.cell lB).trans p0, (hb.cell lB).trans p1, (hb.cell lB).trans p2⟩
          have HKS2 := Lib.hid KS2
          have HG := Lib.hid (And.intro lB (And.intro hWB (And.intro (And.intro p0 (And.intro p1 p2)) (And.intro g0 (And.intro g1' g2')))))
          have HI := Lib.hid hi
          clear KS2 p0 p1 p2 g0 g1' g2' lB hWB hi
          go_region_held3 (fun w' => Below W.heap.size W w' ∧ w'.cell? ⟨w1.heap.size, 0, none⟩ = some (.int .i64 c) ∧ w'.cell? ⟨w1.heap.size, 1, none⟩ = some (.int .i64 h) ∧ w'.cell? ⟨w1.heap.size, 2, none⟩ = some (.int .i64 r))
            (exact HKS2.out _ (by repeat (first | exact Below.refl _ _ | assumption | refine bel_drew ?_ | refine bel_drewN ?_ _ | refine bel_alloc ?_ _ | refine bel_set ?_ (by first | (dsimp only; omega) | (simp; done) | (simp; omega)) _ | refine bel_trans ?_ (by assumption))))
            (first | (go_at_call 24; refine (account_Right c h r _ bc o8 o9).mono ?_; rintro e w5 ⟨rfl, h5⟩) | (go_at_call 26; refine (account_Need c h r _ bc o8 o9).mono ?_; rintro e w5 ⟨rfl, h5⟩) | (go_at_call 28; refine (account_Room c h r _ bc o8 o9).mono ?_; rintro e w5 ⟨rfl, h5⟩))
          clear o2 o3 o4 o5 o6 o7
          go_wp2_with fail
          go_roundw
          case rel =>
            have hh := (show Below W.heap.size W w5 from (by repeat (first | exact Below.refl _ _ | assumption | refine bel_drew ?_ | refine bel_drewN ?_ _ | refine bel_alloc ?_ _ | refine bel_set ?_ (by first | (dsimp only; omega) | (simp; done) | (simp; omega)) _ | refine bel_trans ?_ (by assumption))))
            obtain ⟨lB, hWB, ⟨p0, p1, p2⟩, g0, g1', g2'⟩ := HG.out
            have z5 := hh.size
            exact ⟨k + 1, h, r, by omega, by go_num, HR2.out, by omega, hB0, bel_trans hWB hh, ⟨(hh.cell lB).trans p0, (hh.cell lB).trans p1, (hh.cell lB).trans p2⟩, ⟨(hh.frozen lB).trans g0, (hh.frozen lB).trans g1', (hh.frozen lB).trans g2'⟩⟩
          case measure => simp [intOf]; omega
    · go_wp2_with fail
      refine (law26_works _).mono ?_
      rintro e w5 ⟨rfl, h5⟩
      go_wp2_with fail
      go_ret
      exact ⟨rfl, (by repeat (first | exact Below.refl _ _ | assumption | refine bel_drew ?_ | refine bel_drewN ?_ _ | refine bel_alloc ?_ _ | refine bel_set ?_ (by first | (dsimp only; omega) | (simp; done) | (simp; omega)) _ | refine bel_trans ?_ (by assumption)))⟩
  
end Go.Proofs.Ytbgohgligponiaa
