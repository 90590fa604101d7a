/-
  Layer 39 (page): the law's same and works.
-/
import Derived.Test.YtfgfnfjeopjbgaaPageJ
import Derived.Test.YtfgfnfjeopjbgaaPageH
namespace Go.Proofs.Ytfgfnfjeopjbgaa
open Go.RowKit
set_option linter.unusedVariables false
set_option linter.unusedSimpArgs false
attribute [local go_sem] drewN_alloc drewN_setCell

theorem law39_same {A B : Option Addr} {n m : Nat} {xs : List Int} (c d : Nat) (cur : Int) {w : World} (hx : IntsAt w A n xs) (hy : IntsAt w B m xs) :
    Calls Try.prog 61 #[.agg #[.slice A n c, .int .i64 cur], .agg #[.slice B m d, .int .i64 cur]] w fun e w' => e = .returned (.bool true) ∧ Below w.heap.size w w' := by
  have K : Hid (∀ W, Below w.heap.size w W → Calls Try.prog 62 #[.slice A n c, .slice B m d] W fun e w' => e = .returned (.bool (decide (xs = xs))) ∧ Below W.heap.size W w') := Lib.hid (fun W hW => base_SameInts c d (hx.keep hW) (hy.keep hW))
  rw [decide_eq_true (rfl : xs = xs)] at K
  obtain ⟨bs, hbs⟩ : ∃ bs, w.heap.size = bs := ⟨_, rfl⟩
  obtain ⟨w0, hw0⟩ : ∃ w0, (w.alloc (.cells #[.slice A n c, .int .i64 cur] 53)).alloc (.cells #[.slice B m d, .int .i64 cur] 62) = w0 := ⟨_, rfl⟩
  have hB0 : Below w.heap.size w w0 := by rw [← hw0]; exact (by repeat (first | exact Below.refl _ _ | assumption | refine bel_drew ?_ | refine bel_drewN ?_ _ | refine bel_alloc ?_ _ | refine bel_set ?_ (by first | (dsimp only; omega) | (simp; done) | (simp; omega)) _ | refine bel_trans ?_ (by assumption)))
  have D1 : Hid (w0.cell? ⟨bs, 1, none⟩ = some (.int .i64 cur)) := Lib.hid (by rw [← hw0, ← hbs]; simp [go_sem])
  have D2 : Hid (w0.cell? ⟨bs + 1, 1, none⟩ = some (.int .i64 cur)) := Lib.hid (by rw [← hw0, ← hbs]; simp [go_sem])
  have D0 : Hid (w0.cell? ⟨bs, 0, none⟩ = some (.slice A n c)) := Lib.hid (by rw [← hw0, ← hbs]; simp [go_sem])
  have D3 : Hid (w0.cell? ⟨bs + 1, 0, none⟩ = some (.slice B m d)) := Lib.hid (by rw [← hw0, ← hbs]; simp [go_sem])
  have DS : Hid (bs + 1 < w0.heap.size) := Lib.hid (by rw [← hw0, ← hbs]; simp)
  have K0 := K.out w0 hB0
  replace hw0 := Lib.hid hw0
  replace K0 := Lib.hid K0
  have HBS := Lib.hid hbs
  replace hB0 := Lib.hid hB0
  clear hx hy K hbs
  go_enter Try.func61, Try.ntmps61
  go_wp2_with fail
  rw [hw0.out, HBS.out]
  have d0 := D0.out
  have d3 := D3.out
  go_wp2_with fail
  refine K0.out.mono ?_
  rintro e w1 ⟨rfl, h1⟩
  have y1 := cell_after h1 (by have := DS.out; dsimp only; omega) D1.out
  have y2 := cell_after h1 (by have := DS.out; dsimp only; omega) D2.out
  have B5 := bel_trans' hB0.out h1 hB0.out.size
  go_wp2_with fail
  exact bodyPost_ret (v := .bool true) (by simp [results, Try.results61, go_sem]) rfl ⟨rfl, (by repeat (first | exact Below.refl _ _ | assumption | refine bel_drew ?_ | refine bel_drewN ?_ _ | refine bel_alloc ?_ _ | refine bel_set ?_ (by first | (dsimp only; omega) | (simp; done) | (simp; omega)) _ | refine bel_trans ?_ (by assumption)))⟩

theorem lay_a : PG.lay [] 0 8 8 64 = ([], 0, 0, 0, 9) := by decide +kernel
theorem add_a : PG.add [] 0 7 = ([7], 0) := by decide +kernel
theorem lay_b : PG.lay [7] 0 8 8 64 = ([7], 8, 7, 0, 0) := by decide +kernel
theorem lay_c : PG.lay [7] 8 60 1 64 = ([], 0, 0, 0, 9) := by decide +kernel
theorem last_a : PG.last [7] 8 = 7 := by decide +kernel

theorem law39_works (w : World) : Calls Try.prog 46 #[] w fun e w' => e = .returned (.bool true) ∧ Below w.heap.size w w' := by
  have K1 : Hid (∀ W, Calls Try.prog 47 #[.agg #[.slice none 0 0, .int .i64 0], .int .i64 8, .int .i64 8, .int .i64 64] W (GivesLay W ([], 0, 0, 0, 9))) := Lib.hid (fun W => by
    have := page_Lay (A := none) (n := 0) (xs := []) 0 0 8 8 64 (w := W) IntsAt.nil (by omega) ⟨by omega, by omega⟩ ⟨by omega, by omega⟩ ⟨by omega, by omega⟩ ⟨by omega, by omega⟩
    rwa [lay_a] at this)
  have K2 : Hid (∀ W, Calls Try.prog 48 #[.agg #[.slice none 0 0, .int .i64 0], .int .i64 7] W (GivesAdd W ([7], 0))) := Lib.hid (fun W => by
    have := page_Add (A := none) (n := 0) (xs := []) 0 0 7 (w := W) IntsAt.nil (by omega)
    rwa [add_a] at this)
  have K3 : Hid (∀ W A n c, IntsAt W A n [7] → Calls Try.prog 47 #[.agg #[.slice A n c, .int .i64 0], .int .i64 8, .int .i64 8, .int .i64 64] W (GivesLay W ([7], 8, 7, 0, 0))) := Lib.hid (fun W A n c h => by
    have := page_Lay c 0 8 8 64 h (by have := h.1; simp at this; omega) ⟨by omega, by omega⟩ ⟨by omega, by omega⟩ ⟨by omega, by omega⟩ ⟨by omega, by omega⟩
    rwa [lay_b] at this)
  have K4 : Hid (∀ W A n c, IntsAt W A n [7] → Calls Try.prog 47 #[.agg #[.slice A n c, .int .i64 8], .int .i64 60, .int .i64 1, .int .i64 64] W (GivesLay W ([], 0, 0, 0, 9))) := Lib.hid (fun W A n c h => by
    have := page_Lay c 8 60 1 64 h (by have := h.1; simp at this; omega) ⟨by omega, by omega⟩ ⟨by omega, by omega⟩ ⟨by omega, by omega⟩ ⟨by omega, by omega⟩
    rwa [lay_c] at this)
  have K5 : Hid (∀ W A n c, IntsAt W A n [7] → Calls Try.prog 59 #[.agg #[.slice A n c, .int .i64 8]] W fun e w' => e = .returned (.int .i64 7) ∧ Below W.heap.size W w') := Lib.hid (fun W A n c h => by
    have := page_Last c 8 h (by have := h.1; simp at this; omega)
    rwa [last_a] at this)
  go_enter Try.func46, Try.ntmps46
  go_wp2_with fail
  refine (K1.out _).mono ?_
  rintro e w1 ⟨A1, n1, c1, rfl, i1, h1⟩
  clear i1
  go_wp2_with fail
  refine (K2.out _).mono ?_
  rintro e w2 ⟨A2, n2, c2, rfl, i2, h2⟩
  replace i2 := Lib.hid i2
  go_wp2_with fail
  refine (K3.out _ _ _ _ (i2.out.keep (bel_alloc (Below.refl _ _) _))).mono ?_
  rintro e w3 ⟨A3, n3, c3, rfl, i3, h3⟩
  replace i3 := Lib.hid i3
  go_wp2_with fail
  refine (K4.out _ _ _ _ (i3.out.keep (bel_alloc (Below.refl _ _) _))).mono ?_
  rintro e w4 ⟨A4, n4, c4, rfl, i4, h4⟩
  clear i4
  have x0 : w4.cell? ⟨w3.heap.size, 0, none⟩ = some (.slice A3 n3 c3) := cell_after h4 (by simp) (by simp [go_sem])
  have x1 : w4.cell? ⟨w3.heap.size, 1, none⟩ = some (.int .i64 8) := cell_after h4 (by simp) (by simp [go_sem])
  have i4 := Lib.hid (i3.out.keep (bel_trans (bel_alloc (Below.refl _ _) _) h4))
  have s4 : w3.heap.size < w4.heap.size := by have := h4.size; simp at this; omega
  have x2 : ∀ ob, (w4.alloc ob).cell? ⟨w3.heap.size, 0, none⟩ = some (.slice A3 n3 c3) := fun ob => cell_alloc ob s4 x0
  have x3 : ∀ ob, (w4.alloc ob).cell? ⟨w3.heap.size, 1, none⟩ = some (.int .i64 8) := fun ob => cell_alloc ob s4 x1
  go_wp2_with fail
  refine (K5.out _ _ _ _ (i4.out.keep (bel_alloc (Below.refl _ _) _))).mono ?_
  rintro e w5 ⟨rfl, h5⟩
  go_wp2_with fail
  exact bodyPost_ret (v := .bool true) (by simp [results, Try.results46, go_sem]) rfl ⟨rfl, (by repeat (first | exact Below.refl _ _ | assumption | refine bel_drew ?_ | refine bel_drewN ?_ _ | refine bel_alloc ?_ _ | refine bel_set ?_ (by first | (dsimp only; omega) | (simp; done) | (simp; omega)) _ | refine bel_trans ?_ (by assumption)))⟩
end Go.Proofs.Ytfgfnfjeopjbgaa
