/-
  The walk of the law BumpRow.
-/
import Derived.Test.YtbgohgligponiaaBumpA
import Derived.Test.YtbgohgligponiaaBumpB
import Derived.Test.YtbgohgligponiaaBumpC
import Derived.Test.YtbgohgligponiaaFrame2
import Derived.Deep.QuietTactic
namespace Go.Proofs.Ytbgohgligponiaa
open Go.RowKit
set_option linter.unusedVariables false
attribute [local go_sem] drewN_alloc drewN_setCell

theorem PB_row {c s a k : Int} (hc : 0 ≤ c) (hk : k ≤ 9223372036854775807) (hk1 : 1 ≤ k) :
    (PB.place c s a k = (0, 0, 2) ∧ PB.place 0 s a k = (0, 0, 2)) ∨ (PB.place c s a k = (0, 0, 5) ∧ PB.place 0 s a k = (0, 0, 5)) ∨
    (PB.place c s a k = (0, 0, 6) ∧ PB.place 0 s a k = (0, s, 0)) ∨ (PB.place c s a k = (0, 0, 9) ∧ PB.place 0 s a k = (0, s, 0)) ∨
    (PB.place 0 s a k = (0, s, 0) ∧ ∃ U, PB.place c s a k = (U, U + s, 0) ∧ c ≤ U ∧ 1 ≤ a ∧ 1 ≤ s ∧ U.tmod a = 0 ∧ U + s ≤ k ∧ PB.waste c a = U - c) := by
  by_cases h : s < 1 ∨ k < 1 ∨ PN.power a = false
  · exact Or.inl ⟨PB.place_arg (Or.inr h), PB.place_arg (Or.inr h)⟩
  · have hp : PN.power a = true := by cases hq : PN.power a <;> simp_all
    have ha := PN.power_pos hp
    have n1 : ∀ c : Int, 0 ≤ c → ¬ (c < 0 ∨ s < 1 ∨ k < 1 ∨ PN.power a = false) := fun c hc q => by
      rcases q with q | q
      · omega
      · exact h q
    by_cases h2 : k < s ∨ k < a
    · exact Or.inr (Or.inl ⟨PB.place_size (n1 c hc) h2, PB.place_size (n1 0 (by omega)) h2⟩)
    · have u0 : PN.up 0 a = 0 := PN.up_same (by omega) ha (Int.zero_emod _)
      have p0 : PB.place 0 s a k = (0, s, 0) := by
        have := PB.place_ok (n1 0 (by omega)) h2 (by rw [u0]; omega) (by rw [u0]; omega)
        rw [u0, Int.zero_add] at this
        exact this
      obtain ⟨u1, u2, u3, u4⟩ := PN.up_bd hc ha
      by_cases h3 : 9223372036854775807 < PN.up c a + s
      · exact Or.inr (Or.inr (Or.inl ⟨PB.place_over (n1 c hc) h2 h3, p0⟩))
      · by_cases h4 : k < PN.up c a + s
        · exact Or.inr (Or.inr (Or.inr (Or.inl ⟨PB.place_dry (n1 c hc) h2 h3 h4, p0⟩)))
        · exact Or.inr (Or.inr (Or.inr (Or.inr ⟨p0, PN.up c a, PB.place_ok (n1 c hc) h2 h3 h4, u1, by omega, by omega, by rw [Int.tmod_eq_emod_of_nonneg u4]; exact u3, by omega, PB.waste_yes hc hp (by omega)⟩)))

/-- What holds at the head of the loop. -/
def BumpRel (chunk : Int) (w : World) (len : Nat) (cur i : Value) (wr : World) : Prop :=
  ∃ (k : Nat) (c : Int), k ≤ len ∧ i = .int .i64 k ∧ cur = .int .i64 c ∧ 0 ≤ c ∧ c ≤ chunk ∧ Below w.heap.size w wr

set_option maxHeartbeats 1000000 in
theorem law09_BumpRow_neg (c : Int) (a : Option Addr) (len cap : Nat) (w : World) (bc : -9223372036854775808 ≤ c ∧ c ≤ 9223372036854775807) (h1 : c < 1) (hm : len ≤ 9223372036854775807) :
    Calls Try.prog 10 #[.int .i64 c, .slice a len cap] w fun e w' => e = .returned (.bool true) ∧ Below w.heap.size w w' := by
  go_enter Try.func10, Try.ntmps10
  go_wp2_with fail
  refine (law09_works _).mono ?_
  rintro e w1 ⟨rfl, k1⟩
  go_wp2_with fail
  go_ret
  exact ⟨rfl, (by repeat (first | exact Below.refl _ _ | assumption | refine bel_drew ?_ | refine bel_drewN ?_ _ | refine bel_alloc ?_ _ | refine bel_set ?_ (by first | (dsimp only; omega) | (simp; done) | (simp; omega)) _ | refine bel_trans ?_ (by assumption)))⟩

set_option maxHeartbeats 1000000 in
theorem law09_BumpRow_long (c : Int) (a : Option Addr) (len cap : Nat) (w : World) (bc : -9223372036854775808 ≤ c ∧ c ≤ 9223372036854775807) (h1 : 1 ≤ c) (hl : 60 < (len : Int)) (hm : len ≤ 9223372036854775807) :
    Calls Try.prog 10 #[.int .i64 c, .slice a len cap] w fun e w' => e = .returned (.bool true) ∧ Below w.heap.size w w' := by
  go_enter Try.func10, Try.ntmps10
  go_wp2_with fail
  refine (law09_works _).mono ?_
  rintro e w1 ⟨rfl, k1⟩
  go_wp2_with fail
  go_ret
  exact ⟨rfl, (by repeat (first | exact Below.refl _ _ | assumption | refine bel_drew ?_ | refine bel_drewN ?_ _ | refine bel_alloc ?_ _ | refine bel_set ?_ (by first | (dsimp only; omega) | (simp; done) | (simp; omega)) _ | refine bel_trans ?_ (by assumption)))⟩

set_option maxHeartbeats 1000000 in
theorem law09_BumpRow_nil (c : Int)  (w : World) (bc : -9223372036854775808 ≤ c ∧ c ≤ 9223372036854775807) (h1 : 1 ≤ c) :
    Calls Try.prog 10 #[.int .i64 c, .slice none 0 0] w fun e w' => e = .returned (.bool true) ∧ Below w.heap.size w w' := by
  go_enter Try.func10, Try.ntmps10
  go_wp2_with fail
  refine wp_loop_rounds 1 ?_
  rw [rounds_succ]
  go_wp2_with fail
  refine (law09_works _).mono ?_
  rintro e w1 ⟨rfl, k1⟩
  go_wp2_with fail
  go_ret
  exact ⟨rfl, (by repeat (first | exact Below.refl _ _ | assumption | refine bel_drew ?_ | refine bel_drewN ?_ _ | refine bel_alloc ?_ _ | refine bel_set ?_ (by first | (dsimp only; omega) | (simp; done) | (simp; omega)) _ | refine bel_trans ?_ (by assumption)))⟩

set_option maxRecDepth 100000 in
set_option maxHeartbeats 4000000 in
theorem law09_BumpRow_ok (c : Int) (b off len cap : Nat) (F : Nat → Nat → Int) (w : World) (hl : (len : Int) ≤ 60) (bc : -9223372036854775808 ≤ c ∧ c ≤ 9223372036854775807) (g1 : 1 ≤ c) (hlc : len ≤ cap) (hm : cap ≤ 9223372036854775807) (hbw : 0 < len → b < w.heap.size)
    (hcell : ∀ i, i < cap → ∀ j, j < 2 → w.cell? ⟨b, off + i * 2 + j, none⟩ = some (.int .i64 (F i j)) ∧ -9223372036854775808 ≤ F i j ∧ F i j ≤ 9223372036854775807) :
    Calls Try.prog 10 #[.int .i64 c, .slice (some ⟨b, off, none⟩) len cap] w fun e w' => e = .returned (.bool true) ∧ Below w.heap.size w w' := by
  have HC := Lib.hid hcell
  clear hcell
  go_enter Try.func10, Try.ntmps10
  go_wp2_with fail
  go_loopw [5, 6] (fun cur i wr => BumpRel c w len cur i wr) (fun _ i _ => len - (intOf i).toNat)
  case atStart => exact ⟨0, 0, Nat.zero_le _, rfl, rfl, by omega, by omega, (by repeat (first | exact Below.refl _ _ | assumption | refine bel_drew ?_ | refine bel_drewN ?_ _ | refine bel_alloc ?_ _ | refine bel_set ?_ (by first | (dsimp only; omega) | (simp; done) | (simp; omega)) _ | refine bel_trans ?_ (by assumption)))⟩
  case round =>
    obtain ⟨k, cur, hk, rfl, rfl, hc0, hc1, hbel⟩ := hrel
    by_cases hlt : (k : Int) < len
    · obtain ⟨x0, x1, x2⟩ := HC.out k (by omega) 0 (by omega)
      obtain ⟨y0, y1, y2⟩ := HC.out k (by omega) 1 (by omega)
      simp only [Nat.add_zero] at x0
      have hbw' := hbw (by omega)
      have xr : wr.cell? ⟨b, off + k * 2, none⟩ = some (.int .i64 (F k 0)) := (hbel.cell hbw').trans x0
      have yr : wr.cell? ⟨b, off + k * 2 + 1, none⟩ = some (.int .i64 (F k 1)) := (hbel.cell hbw').trans y0
      have j1 : (0 : Int) ≤ (k : Int) := by omega
      clear x0 y0
      have hrow := PB_row (c := cur) (s := F k 0) (a := F k 1) (k := c) hc0 bc.2 g1
      rcases hrow with ⟨v1, v2⟩ | ⟨v1, v2⟩ | ⟨v1, v2⟩ | ⟨v1, v2⟩ | ⟨v2, U, v1, r1, r2, r3, r4, r5, r6⟩
      · have d1 := fun W => bump_Place cur (F k 0) (F k 1) c W (by omega) ⟨x1, x2⟩ ⟨y1, y2⟩ bc
        have d2 := fun W => bump_Place 0 (F k 0) (F k 1) c W (by omega) ⟨x1, x2⟩ ⟨y1, y2⟩ bc
        rw [v1] at d1
        rw [v2] at d2
        dsimp only at d1 d2
        have D1 := Lib.hid d1
        have D2 := Lib.hid d2
        clear d1 d2 v1 v2
        generalize F k 0 = s at *
        generalize F k 1 = a at *
        go_wp2_with fail
        go_quiet (fail)
        go_wp2_with fail
        refine (D1.out _).mono ?_
        rintro e w2 ⟨rfl, rfl⟩
        go_wp2_with fail
        refine (D2.out _).mono ?_
        rintro e w3 ⟨rfl, rfl⟩
        go_wp2_with fail
        go_roundw
        case rel => exact ⟨k + 1, cur, by omega, by go_num, rfl, hc0, hc1, (by repeat (first | exact Below.refl _ _ | assumption | refine bel_drew ?_ | refine bel_drewN ?_ _ | refine bel_alloc ?_ _ | refine bel_set ?_ (by first | (dsimp only; omega) | (simp; done) | (simp; omega)) _ | refine bel_trans ?_ (by assumption)))⟩
        case measure => simp [intOf]; omega
      · have d1 := fun W => bump_Place cur (F k 0) (F k 1) c W (by omega) ⟨x1, x2⟩ ⟨y1, y2⟩ bc
        have d2 := fun W => bump_Place 0 (F k 0) (F k 1) c W (by omega) ⟨x1, x2⟩ ⟨y1, y2⟩ bc
        rw [v1] at d1
        rw [v2] at d2
        dsimp only at d1 d2
        have D1 := Lib.hid d1
        have D2 := Lib.hid d2
        clear d1 d2 v1 v2
        generalize F k 0 = s at *
        generalize F k 1 = a at *
        go_wp2_with fail
        go_quiet (fail)
        go_wp2_with fail
        refine (D1.out _).mono ?_
        rintro e w2 ⟨rfl, rfl⟩
        go_wp2_with fail
        refine (D2.out _).mono ?_
        rintro e w3 ⟨rfl, rfl⟩
        go_wp2_with fail
        go_roundw
        case rel => exact ⟨k + 1, cur, by omega, by go_num, rfl, hc0, hc1, (by repeat (first | exact Below.refl _ _ | assumption | refine bel_drew ?_ | refine bel_drewN ?_ _ | refine bel_alloc ?_ _ | refine bel_set ?_ (by first | (dsimp only; omega) | (simp; done) | (simp; omega)) _ | refine bel_trans ?_ (by assumption)))⟩
        case measure => simp [intOf]; omega
      · have d1 := fun W => bump_Place cur (F k 0) (F k 1) c W (by omega) ⟨x1, x2⟩ ⟨y1, y2⟩ bc
        have d2 := fun W => bump_Place 0 (F k 0) (F k 1) c W (by omega) ⟨x1, x2⟩ ⟨y1, y2⟩ bc
        rw [v1] at d1
        rw [v2] at d2
        dsimp only at d1 d2
        have D1 := Lib.hid d1
        have D2 := Lib.hid d2
        clear d1 d2 v1 v2
        generalize F k 0 = s at *
        generalize F k 1 = a at *
        go_wp2_with fail
        go_quiet (fail)
        go_wp2_with fail
        refine (D1.out _).mono ?_
        rintro e w2 ⟨rfl, rfl⟩
        go_wp2_with fail
        refine (D2.out _).mono ?_
        rintro e w3 ⟨rfl, rfl⟩
        go_wp2_with fail
        go_roundw
        case rel => exact ⟨k + 1, cur, by omega, by go_num, rfl, hc0, hc1, (by repeat (first | exact Below.refl _ _ | assumption | refine bel_drew ?_ | refine bel_drewN ?_ _ | refine bel_alloc ?_ _ | refine bel_set ?_ (by first | (dsimp only; omega) | (simp; done) | (simp; omega)) _ | refine bel_trans ?_ (by assumption)))⟩
        case measure => simp [intOf]; omega
      · have d1 := fun W => bump_Place cur (F k 0) (F k 1) c W (by omega) ⟨x1, x2⟩ ⟨y1, y2⟩ bc
        have d2 := fun W => bump_Place 0 (F k 0) (F k 1) c W (by omega) ⟨x1, x2⟩ ⟨y1, y2⟩ bc
        rw [v1] at d1
        rw [v2] at d2
        dsimp only at d1 d2
        have D1 := Lib.hid d1
        have D2 := Lib.hid d2
        clear d1 d2 v1 v2
        generalize F k 0 = s at *
        generalize F k 1 = a at *
        go_wp2_with fail
        go_quiet (fail)
        go_wp2_with fail
        refine (D1.out _).mono ?_
        rintro e w2 ⟨rfl, rfl⟩
        go_wp2_with fail
        refine (D2.out _).mono ?_
        rintro e w3 ⟨rfl, rfl⟩
        go_wp2_with fail
        go_roundw
        case rel => exact ⟨k + 1, cur, by omega, by go_num, rfl, hc0, hc1, (by repeat (first | exact Below.refl _ _ | assumption | refine bel_drew ?_ | refine bel_drewN ?_ _ | refine bel_alloc ?_ _ | refine bel_set ?_ (by first | (dsimp only; omega) | (simp; done) | (simp; omega)) _ | refine bel_trans ?_ (by assumption)))⟩
        case measure => simp [intOf]; omega
      · have d1 := fun W => bump_Place cur (F k 0) (F k 1) c W (by omega) ⟨x1, x2⟩ ⟨y1, y2⟩ bc
        have d2 := fun W => bump_Place 0 (F k 0) (F k 1) c W (by omega) ⟨x1, x2⟩ ⟨y1, y2⟩ bc
        rw [v1] at d1
        rw [v2] at d2
        dsimp only at d1 d2
        have D1 := Lib.hid d1
        have D2 := Lib.hid d2
        clear d1 d2 v1 v2
        have d3 := fun W => bump_Waste cur (F k 1) W (by omega) ⟨y1, y2⟩
        rw [r6] at d3
        have D3 := Lib.hid d3
        have u1 : U + F k 0 - U = F k 0 := by omega
        clear d3 r6
        generalize F k 0 = s at *
        generalize F k 1 = a at *
        go_wp2_with fail
        go_quiet (fail)
        go_wp2_with fail
        refine (D1.out _).mono ?_
        rintro e w2 ⟨rfl, rfl⟩
        go_wp2_with fail
        refine (D2.out _).mono ?_
        rintro e w3 ⟨rfl, rfl⟩
        go_wp2_with fail
        refine (D3.out _).mono ?_
        rintro e w4 ⟨rfl, rfl⟩
        go_wp2_with fail
        go_roundw
        case rel => exact ⟨k + 1, U + s, by omega, by go_num, rfl, by omega, by omega, (by repeat (first | exact Below.refl _ _ | assumption | refine bel_drew ?_ | refine bel_drewN ?_ _ | refine bel_alloc ?_ _ | refine bel_set ?_ (by first | (dsimp only; omega) | (simp; done) | (simp; omega)) _ | refine bel_trans ?_ (by assumption)))⟩
        case measure => simp [intOf]; omega
    · go_wp2_with fail
      refine (law09_works _).mono ?_
      rintro e w5 ⟨rfl, h5⟩
      go_wp2_with fail
      go_ret
      exact ⟨rfl, (by repeat (first | exact Below.refl _ _ | assumption | refine bel_drew ?_ | refine bel_drewN ?_ _ | refine bel_alloc ?_ _ | refine bel_set ?_ (by first | (dsimp only; omega) | (simp; done) | (simp; omega)) _ | refine bel_trans ?_ (by assumption)))⟩

theorem law09_BumpRow (c : Int) (a : Option Addr) (len cap : Nat) (F : Nat → Nat → Int) (w : World) (bc : -9223372036854775808 ≤ c ∧ c ≤ 9223372036854775807) (hs : Fr.IsRows w 2 a len cap F) :
    Calls Try.prog 10 #[.int .i64 c, .slice a len cap] w fun e w' => e = .returned (.bool true) ∧ Below w.heap.size w w' := by
  rcases hs with ⟨rfl, rfl, rfl⟩ | ⟨b, off, rfl, hbw, hlc, hm, hcell⟩
  · by_cases hb : c < 1
    · exact law09_BumpRow_neg c none 0 0 w bc hb (by omega)
    · exact law09_BumpRow_nil c w bc (by omega)
  · unfold maxLen at hm
    by_cases hb : c < 1
    · exact law09_BumpRow_neg c _ len cap w bc hb (by omega)
    · by_cases hl : 60 < (len : Int)
      · exact law09_BumpRow_long c _ len cap w bc (by omega) hl (by omega)
      · exact law09_BumpRow_ok c b off len cap F w (by omega) bc (by omega) hlc (by omega) hbw hcell
end Go.Proofs.Ytbgohgligponiaa
