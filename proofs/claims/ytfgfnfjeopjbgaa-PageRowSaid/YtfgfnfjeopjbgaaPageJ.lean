/-
  Layer 39 (page): the reference's Lay.
-/
import Derived.Test.YtfgfnfjeopjbgaaPageI
import Derived.Test.YtfgfnfjeopjbgaaPlaceB
import Derived.Test.YtfgfnfjeopjbgaaReg
namespace Go.Proofs.Ytfgfnfjeopjbgaa
open Go.RowKit
set_option linter.unusedVariables false
set_option linter.unusedSimpArgs false
attribute [local go_sem] drewN_alloc drewN_setCell

set_option maxRecDepth 100000 in
set_option maxHeartbeats 8000000 in
theorem ref39_Lay {A : Option Addr} {n : Nat} {xs : List Int} (c : Nat) (cur s a k : Int) {w : World} (h : IntsAt w A n xs) (hn : n ≤ 100000)
    (bc : -9223372036854775808 ≤ cur ∧ cur ≤ 9223372036854775807) (bs' : -9223372036854775808 ≤ s ∧ s ≤ 9223372036854775807) (ba : -9223372036854775808 ≤ a ∧ a ≤ 9223372036854775807) (bk : -9223372036854775808 ≤ k ∧ k ≤ 9223372036854775807) :
    Calls Try.prog 56 #[.agg #[.slice A n c, .int .i64 cur], .int .i64 s, .int .i64 a, .int .i64 k] w (GivesLay w (PG.lay xs cur s a k)) := by
  obtain ⟨w0, hw0⟩ : ∃ w0, (w.alloc (.cells #[.slice A n c, .int .i64 cur] 62)).alloc (.cells #[.slice none 0 0, .int .i64 0] 62) = w0 := ⟨_, rfl⟩
  obtain ⟨bs, hbs⟩ : ∃ bs, w.heap.size = bs := ⟨_, rfl⟩
  have hB0 : Below w.heap.size w w0 := by rw [← hw0]; exact (by repeat (first | exact Below.refl _ _ | assumption | refine bel_drew ?_ | refine bel_drewN ?_ _ | refine bel_alloc ?_ _ | refine bel_set ?_ (by first | (dsimp only; omega) | (simp; done) | (simp; omega)) _ | refine bel_trans ?_ (by assumption)))
  have D0 : Hid (w0.cell? ⟨bs, 0, none⟩ = some (.slice A n c)) := Lib.hid (by rw [← hw0, ← hbs]; simp [go_sem])
  have D1 : Hid (w0.cell? ⟨bs, 1, none⟩ = some (.int .i64 cur)) := Lib.hid (by rw [← hw0, ← hbs]; simp [go_sem])
  have R0 : Hid (w0.cell? ⟨bs + 1, 0, none⟩ = some (.slice none 0 0)) := Lib.hid (by rw [← hw0, ← hbs]; simp [go_sem])
  have R1 : Hid (w0.cell? ⟨bs + 1, 1, none⟩ = some (.int .i64 0)) := Lib.hid (by rw [← hw0, ← hbs]; simp [go_sem])
  have F0 : Hid (w0.frozen? ⟨bs + 1, 0, none⟩ = false) := Lib.hid (by rw [← hw0, ← hbs]; simp [go_sem])
  have F1 : Hid (w0.frozen? ⟨bs + 1, 1, none⟩ = false) := Lib.hid (by rw [← hw0, ← hbs]; simp [go_sem])
  have DS : Hid (bs + 1 < w0.heap.size) := Lib.hid (by rw [← hw0, ← hbs]; simp)
  have h0 := h.keep hB0
  have K1 := ref39_Right c cur h0
  replace hw0 := Lib.hid hw0
  have HBS := Lib.hid hbs
  have HW0 := Lib.hid hB0
  rcases hr : PG.right xs cur with _ | _
  · rw [hr] at K1
    have e : PG.lay xs cur s a k = ([], 0, 0, 0, 2) := by unfold PG.lay; rw [if_pos hr]
    rw [e]
    replace K1 := Lib.hid K1
    clear h h0 hr e hB0 hbs
    go_enter Try.func56, Try.ntmps56
    go_wp2_with fail
    rw [hw0.out, HBS.out]
    refine K1.out.mono ?_
    rintro e w5 ⟨rfl, h5⟩
    have y0 := cell_after h5 (by have := DS.out; dsimp only; omega) R0.out
    have y1 := cell_after h5 (by have := DS.out; dsimp only; omega) R1.out
    have z0 := cell_after h5 (by have := DS.out; dsimp only; omega) D0.out
    have z1 := cell_after h5 (by have := DS.out; dsimp only; omega) D1.out
    have f0 := (h5.frozen (p := ⟨bs + 1, 0, none⟩) (by have := DS.out; dsimp only; omega)).trans F0.out
    have f1 := (h5.frozen (p := ⟨bs + 1, 1, none⟩) (by have := DS.out; dsimp only; omega)).trans F1.out
    have B5 := bel_trans' HW0.out h5 HW0.out.size
    have hsz := HBS.out
    go_wp2_with fail
    have g2 : ∀ v u, ((w5.setCell ⟨bs + 1, 0, none⟩ v).setCell ⟨bs + 1, 1, none⟩ u).cell? ⟨bs + 1, 1, none⟩ = some u := fun v u => World.cell?_setCell_same _ _ _ ((World.cell?_setCell_other _ _ _ _ (by simp)).trans y1)
    have g3 : ∀ v, (w5.setCell ⟨bs + 1, 0, none⟩ v).cell? ⟨bs + 1, 0, none⟩ = some v := fun v => World.cell?_setCell_same _ _ _ y0
    refine bodyPost_ret (v := .tuple #[.agg #[.slice none 0 0, .int .i64 0], .int .i64 0, .int .i64 0, .int .i64 2]) (by simp [results, Try.results56, go_sem, g2, g3]) rfl ?_
    exact ⟨none, 0, 0, rfl, IntsAt.nil, (by repeat (first | exact Below.refl _ _ | assumption | refine bel_drew ?_ | refine bel_drewN ?_ _ | refine bel_alloc ?_ _ | refine bel_set ?_ (by first | (dsimp only; omega) | (simp; done) | (simp; omega)) _ | refine bel_trans ?_ (by assumption)))⟩
  · rw [hr] at K1
    have K2 := fun W => ref09_Place cur s a k W bc bs' ba bk
    have K3 : Hid (∀ W, Below w.heap.size w W → Calls Try.prog 60 #[.agg #[.slice A n c, .int .i64 cur]] W fun e w' => e = .returned (.int .i64 (PG.last xs cur)) ∧ Below W.heap.size W w') := Lib.hid (fun W hW => ref39_Last c cur (h.keep hW))
    have HI : Hid (∀ W, Below w.heap.size w W → IntsAt W A n xs) := Lib.hid (fun W hW => h.keep hW)
    have HN := h.1
    have HL : PG.lay xs cur s a k = (if (PB.place cur s a k).2.2 ≠ 0 then ([], 0, 0, 0, (PB.place cur s a k).2.2) else if xs = [] then ([], 0, 0, 0, 9) else (xs, (PB.place cur s a k).2.1, PG.last xs cur, (PB.place cur s a k).1, 0)) := by unfold PG.lay; rw [if_neg (by rw [hr]; simp)]
    generalize PB.place cur s a k = pl at *
    obtain ⟨p1, p2, p3⟩ := pl
    dsimp only at HL K2
    generalize PG.last xs cur = la at *
    generalize PG.lay xs cur s a k = LY at *
    replace K1 := Lib.hid K1
    replace K2 := Lib.hid K2
    clear h h0 hB0 hbs hr
    by_cases hp3 : p3 = 0
    · subst hp3
      rw [if_neg (by simp)] at HL
      by_cases hx : xs = []
      · rw [if_pos hx] at HL
        subst HL hx
        have hn0 : n = 0 := by simpa using HN.symm
        subst hn0
        clear K3 HI HN
        go_enter Try.func56, Try.ntmps56
        go_wp2_with fail
        rw [hw0.out, HBS.out]
        refine K1.out.mono ?_
        rintro e w5 ⟨rfl, h5⟩
        have y0 := cell_after h5 (by have := DS.out; dsimp only; omega) R0.out
        have y1 := cell_after h5 (by have := DS.out; dsimp only; omega) R1.out
        have z0 := cell_after h5 (by have := DS.out; dsimp only; omega) D0.out
        have z1 := cell_after h5 (by have := DS.out; dsimp only; omega) D1.out
        have f0 := (h5.frozen (p := ⟨bs + 1, 0, none⟩) (by have := DS.out; dsimp only; omega)).trans F0.out
        have f1 := (h5.frozen (p := ⟨bs + 1, 1, none⟩) (by have := DS.out; dsimp only; omega)).trans F1.out
        go_wp2_with fail
        refine (K2.out _).mono ?_
        rintro e w6 ⟨rfl, rfl⟩
        have B5 := bel_trans' HW0.out h5 HW0.out.size
        have hsz := HBS.out
        go_wp2_with fail
        have g2 : ∀ v u, ((w5.setCell ⟨bs + 1, 0, none⟩ v).setCell ⟨bs + 1, 1, none⟩ u).cell? ⟨bs + 1, 1, none⟩ = some u := fun v u => World.cell?_setCell_same _ _ _ ((World.cell?_setCell_other _ _ _ _ (by simp)).trans y1)
        have g3 : ∀ v, (w5.setCell ⟨bs + 1, 0, none⟩ v).cell? ⟨bs + 1, 0, none⟩ = some v := fun v => World.cell?_setCell_same _ _ _ y0
        refine bodyPost_ret (v := .tuple #[.agg #[.slice none 0 0, .int .i64 0], .int .i64 0, .int .i64 0, .int .i64 9]) (by simp [results, Try.results56, go_sem, g2, g3]) rfl ?_
        exact ⟨none, 0, 0, rfl, IntsAt.nil, (by repeat (first | exact Below.refl _ _ | assumption | refine bel_drew ?_ | refine bel_drewN ?_ _ | refine bel_alloc ?_ _ | refine bel_set ?_ (by first | (dsimp only; omega) | (simp; done) | (simp; omega)) _ | refine bel_trans ?_ (by assumption)))⟩
      · rw [if_neg hx] at HL
        have hn1 : 1 ≤ n := by have := List.length_pos_iff.2 hx; omega
        have q3 : decide ((n : Int) = 0) = false := by simp; omega
        have q4 : ((n : Int) == 0) = false := by simp; omega
        subst HL
        replace HN := Lib.hid HN
        clear hx
        go_enter Try.func56, Try.ntmps56
        go_wp2_with fail
        rw [hw0.out, HBS.out]
        refine K1.out.mono ?_
        rintro e w5 ⟨rfl, h5⟩
        have y0 := cell_after h5 (by have := DS.out; dsimp only; omega) R0.out
        have y1 := cell_after h5 (by have := DS.out; dsimp only; omega) R1.out
        have z0 := cell_after h5 (by have := DS.out; dsimp only; omega) D0.out
        have z1 := cell_after h5 (by have := DS.out; dsimp only; omega) D1.out
        have f0 := (h5.frozen (p := ⟨bs + 1, 0, none⟩) (by have := DS.out; dsimp only; omega)).trans F0.out
        have f1 := (h5.frozen (p := ⟨bs + 1, 1, none⟩) (by have := DS.out; dsimp only; omega)).trans F1.out
        go_wp2_with fail
        refine (K2.out _).mono ?_
        rintro e w6 ⟨rfl, rfl⟩
        have B5 := bel_trans' HW0.out h5 HW0.out.size
        have hsz := HBS.out
        have sz5 := Nat.lt_of_lt_of_le DS.out h5.size
        go_wp2_with fail
        have sz0 : w5.heap.size ≥ bs + 2 := by omega
        have HKS : Hid (∀ w', Below (bs + 1) w5 w' → (fun w' => Below w.heap.size w w' ∧ w'.cell? ⟨bs, 0, none⟩ = some (.slice A n c) ∧ w'.cell? ⟨bs, 1, none⟩ = some (.int .i64 cur)) w') := Lib.hid (fun w' hb => ⟨B5.trans (hb.mono (by omega)), (hb.cell (p := ⟨bs, 0, none⟩) (by dsimp only; omega)).trans z0, (hb.cell (p := ⟨bs, 1, none⟩) (by dsimp only; omega)).trans z1⟩)
        refine wp_region_held_drew (S := (fun w' => Below w.heap.size w w' ∧ w'.cell? ⟨bs, 0, none⟩ = some (.slice A n c) ∧ w'.cell? ⟨bs, 1, none⟩ = some (.int .i64 cur))) (by kernel_rfl) ?_ (fun hHeld => ?_)
        focus ((try dsimp only); exact HKS.out _ (by repeat (first | exact Below.refl _ _ | assumption | refine Below.drew ?_ | refine Below.setCell ?_ (by simp) _)))
        refine tk_yes 0 (v := ?_) rfl (by kernel_rfl) (by kernel_rfl) (by kernel_rfl) (fun _ _ _ h => h) (by kernel_rfl) (by assumption) ?_ ?_; rotate_left; (focus (intro w hSw; (try dsimp only at hSw); go_simp; (first | done | (with_reducible rfl)))); (try simp only [Act.put, List.setIfInBounds_toArray, List.set_cons_zero, List.set_cons_succ])
        refine tk_yes 1 (v := ?_) rfl (by kernel_rfl) (by kernel_rfl) (by kernel_rfl) (fun _ _ _ h => h) (by kernel_rfl) (by assumption) ?_ ?_; rotate_left; (focus (intro w hSw; (try dsimp only at hSw); go_simp; (first | done | (with_reducible rfl)))); (try simp only [Act.put, List.setIfInBounds_toArray, List.set_cons_zero, List.set_cons_succ])
        refine tk_yes 2 (v := ?_) rfl (by kernel_rfl) (by kernel_rfl) (by kernel_rfl) (fun _ _ _ h => h) (by kernel_rfl) (by assumption) ?_ ?_; rotate_left; (focus (intro w hSw; (try dsimp only at hSw); go_simp; (first | done | (with_reducible rfl)))); (try simp only [Act.put, List.setIfInBounds_toArray, List.set_cons_zero, List.set_cons_succ])
        refine tk_yes 3 (v := ?_) rfl (by kernel_rfl) (by kernel_rfl) (by kernel_rfl) (fun _ _ _ h => h) (by kernel_rfl) (by assumption) ?_ ?_; rotate_left; (focus (intro w hSw; (try dsimp only at hSw); go_simp; (first | done | (with_reducible rfl)))); (try simp only [Act.put, List.setIfInBounds_toArray, List.set_cons_zero, List.set_cons_succ])
        refine tk_yes 4 (v := ?_) rfl (by kernel_rfl) (by kernel_rfl) (by kernel_rfl) (fun _ _ _ h => h) (by kernel_rfl) (by assumption) ?_ ?_; rotate_left; (focus (intro w hSw; (try dsimp only at hSw); go_simp; (first | done | (with_reducible rfl)))); (try simp only [Act.put, List.setIfInBounds_toArray, List.set_cons_zero, List.set_cons_succ])
        refine tk_yes 6 (v := ?_) rfl (by kernel_rfl) (by kernel_rfl) (by kernel_rfl) (fun _ _ _ h => h) (by kernel_rfl) (by assumption) ?_ ?_; rotate_left; (focus (intro w hSw; (try dsimp only at hSw); go_simp; (first | done | (with_reducible rfl)))); (try simp only [Act.put, List.setIfInBounds_toArray, List.set_cons_zero, List.set_cons_succ])
        refine tk_call 5 rfl (by kernel_rfl) (by kernel_rfl) (fun KW hKW => ?_); go_simp; go_at_call 60; refine (K3.out _ (by exact (by repeat (first | exact Below.refl _ _ | assumption | refine bel_drew ?_ | refine bel_drewN ?_ _ | refine bel_alloc ?_ _ | refine bel_set ?_ (by first | (dsimp only; omega) | (simp; done) | (simp; omega)) _ | refine bel_trans ?_ (by assumption))))).mono ?_; rintro e w8 ⟨rfl, h8⟩; have h8b := bel_trans (Below.refl w5.heap.size w5).drew h8; have h8c : Below (bs + 1) w5 w8 := h8b.mono (by omega); clear h8; have y0 := cell_after h8b (by dsimp only; omega) y0; have y1 := cell_after h8b (by dsimp only; omega) y1; have f0 := (h8b.frozen (p := ⟨bs + 1, 0, none⟩) (by dsimp only; omega)).trans f0; have f1 := (h8b.frozen (p := ⟨bs + 1, 1, none⟩) (by dsimp only; omega)).trans f1; refine hKW.out _ _ ?_ (fun hHeld => ?_); (focus ((try dsimp only); exact HKS.out _ (by repeat (first | exact Below.refl _ _ | assumption | refine Below.drew ?_ | refine Below.setCell ?_ (by simp) _)))); clear hKW KW; (try simp only [Act.put, List.setIfInBounds_toArray, List.set_cons_zero, List.set_cons_succ])
        refine tk_call 7 rfl (by kernel_rfl) (by kernel_rfl) (fun KW hKW => ?_); go_simp; refine hKW.out _ _ ?_ (fun hHeld => ?_); (focus ((try dsimp only); exact HKS.out _ (by repeat (first | exact Below.refl _ _ | assumption | refine Below.drew ?_ | refine Below.setCell ?_ (by simp) _)))); clear hKW KW; (try simp only [Act.put, List.setIfInBounds_toArray, List.set_cons_zero, List.set_cons_succ])
        refine tk_yes 8 (v := ?_) rfl (by kernel_rfl) (by kernel_rfl) (by kernel_rfl) (fun _ _ _ h => h) (by kernel_rfl) (by assumption) ?_ ?_; rotate_left; (focus (intro w hSw; (try dsimp only at hSw); go_simp; (first | done | (with_reducible rfl)))); (try simp only [Act.put, List.setIfInBounds_toArray, List.set_cons_zero, List.set_cons_succ])
        refine tk_yes 9 (v := ?_) rfl (by kernel_rfl) (by kernel_rfl) (by kernel_rfl) (fun _ _ _ h => h) (by kernel_rfl) (by assumption) ?_ ?_; rotate_left; (focus (intro w hSw; (try dsimp only at hSw); go_simp; (first | done | (with_reducible rfl)))); (try simp only [Act.put, List.setIfInBounds_toArray, List.set_cons_zero, List.set_cons_succ])
        refine tk_yes 10 (v := ?_) rfl (by kernel_rfl) (by kernel_rfl) (by kernel_rfl) (fun _ _ _ h => h) (by kernel_rfl) (by assumption) ?_ ?_; rotate_left; (focus (intro w hSw; (try dsimp only at hSw); go_simp; (first | done | (with_reducible rfl)))); (try simp only [Act.put, List.setIfInBounds_toArray, List.set_cons_zero, List.set_cons_succ])
        refine wpAnyH_done (by kernel_rfl) ?_ _
        have hb9 : Below w.heap.size w ((w8.setCell ⟨bs + 1, 0, none⟩ (.slice A n c)).setCell ⟨bs + 1, 1, none⟩ (.int .i64 p2)) := ((B5.trans (h8c.mono (by omega))).setCell (by dsimp only; omega) _).setCell (by dsimp only; omega) _
        go_wp2_with fail
        have g2 : ∀ v u, ((w8.setCell ⟨bs + 1, 0, none⟩ v).setCell ⟨bs + 1, 1, none⟩ u).cell? ⟨bs + 1, 1, none⟩ = some u := fun v u => World.cell?_setCell_same _ _ _ ((World.cell?_setCell_other _ _ _ _ (by simp)).trans y1)
        have g3 : ∀ v, (w8.setCell ⟨bs + 1, 0, none⟩ v).cell? ⟨bs + 1, 0, none⟩ = some v := fun v => World.cell?_setCell_same _ _ _ y0
        refine bodyPost_ret (v := .tuple #[.agg #[.slice A n c, .int .i64 p2], .int .i64 la, .int .i64 p1, .int .i64 0]) (by simp [results, Try.results56, go_sem, g2, g3]) rfl ?_
        exact ⟨A, n, c, rfl, HI.out _ hb9, hb9⟩
    · rw [if_pos hp3] at HL
      have q1 : (p3 == 0) = false := by simpa using hp3
      have q2 : (p3 != 0) = true := by simpa using hp3
      subst HL
      clear K3 HI HN hp3
      go_enter Try.func56, Try.ntmps56
      go_wp2_with fail
      rw [hw0.out, HBS.out]
      refine K1.out.mono ?_
      rintro e w5 ⟨rfl, h5⟩
      have y0 := cell_after h5 (by have := DS.out; dsimp only; omega) R0.out
      have y1 := cell_after h5 (by have := DS.out; dsimp only; omega) R1.out
      have z0 := cell_after h5 (by have := DS.out; dsimp only; omega) D0.out
      have z1 := cell_after h5 (by have := DS.out; dsimp only; omega) D1.out
      have f0 := (h5.frozen (p := ⟨bs + 1, 0, none⟩) (by have := DS.out; dsimp only; omega)).trans F0.out
      have f1 := (h5.frozen (p := ⟨bs + 1, 1, none⟩) (by have := DS.out; dsimp only; omega)).trans F1.out
      go_wp2_with fail
      refine (K2.out _).mono ?_
      rintro e w6 ⟨rfl, rfl⟩
      have B5 := bel_trans' HW0.out h5 HW0.out.size
      have hsz := HBS.out
      go_wp2_with fail
      have g2 : ∀ v u, ((w5.setCell ⟨bs + 1, 0, none⟩ v).setCell ⟨bs + 1, 1, none⟩ u).cell? ⟨bs + 1, 1, none⟩ = some u := fun v u => World.cell?_setCell_same _ _ _ ((World.cell?_setCell_other _ _ _ _ (by simp)).trans y1)
      have g3 : ∀ v, (w5.setCell ⟨bs + 1, 0, none⟩ v).cell? ⟨bs + 1, 0, none⟩ = some v := fun v => World.cell?_setCell_same _ _ _ y0
      refine bodyPost_ret (v := .tuple #[.agg #[.slice none 0 0, .int .i64 0], .int .i64 0, .int .i64 0, .int .i64 p3]) (by simp [results, Try.results56, go_sem, g2, g3]) rfl ?_
      exact ⟨none, 0, 0, rfl, IntsAt.nil, (by repeat (first | exact Below.refl _ _ | assumption | refine bel_drew ?_ | refine bel_drewN ?_ _ | refine bel_alloc ?_ _ | refine bel_set ?_ (by first | (dsimp only; omega) | (simp; done) | (simp; omega)) _ | refine bel_trans ?_ (by assumption)))⟩
end Go.Proofs.Ytfgfnfjeopjbgaa
