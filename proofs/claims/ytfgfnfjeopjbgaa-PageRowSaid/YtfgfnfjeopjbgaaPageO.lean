/-
  Layer 39 (page): Lay and Add once more: what they hand back is the call's own.
-/
import Derived.Test.YtfgfnfjeopjbgaaPageK
namespace Go.Proofs.Ytfgfnfjeopjbgaa
open Go.RowKit
set_option linter.unusedVariables false
set_option linter.unusedSimpArgs false
attribute [local go_sem] drewN_alloc drewN_setCell

def GivesLayO (w : World) (r : List Int × Int × Int × Int × Int) (e : Ending) (w' : World) : Prop :=
  ∃ v, e = .returned (.tuple #[.agg #[v, .int .i64 r.2.1], .int .i64 r.2.2.1, .int .i64 r.2.2.2.1, .int .i64 r.2.2.2.2]) ∧ OwnI w.heap.size w' v r.1 ∧ Below w.heap.size w w'
def GivesAddO (w : World) (r : List Int × Int) (e : Ending) (w' : World) : Prop :=
  ∃ v, e = .returned (.tuple #[.agg #[v, .int .i64 0], .int .i64 r.2]) ∧ OwnI w.heap.size w' v r.1 ∧ Below w.heap.size w w'

set_option maxRecDepth 100000 in
set_option maxHeartbeats 8000000 in
theorem page_LayO {A : Option Addr} {n : Nat} {xs : List Int} (c : Nat) (cur s a k : Int) {w : World} (h : IntsAt w A n xs) (hn : n ≤ 100000)
    (bc : -9223372036854775808 ≤ cur ∧ cur ≤ 9223372036854775807) (bs' : -9223372036854775808 ≤ s ∧ s ≤ 9223372036854775807) (ba : -9223372036854775808 ≤ a ∧ a ≤ 9223372036854775807) (bk : -9223372036854775808 ≤ k ∧ k ≤ 9223372036854775807) :
    Calls Try.prog 47 #[.agg #[.slice A n c, .int .i64 cur], .int .i64 s, .int .i64 a, .int .i64 k] w (GivesLayO w (PG.lay xs cur s a k)) := by
  obtain ⟨w0, hw0⟩ : ∃ w0, (w.alloc (.cells #[.slice A n c, .int .i64 cur] 53)).alloc (.cells #[.slice none 0 0, .int .i64 0] 53) = w0 := ⟨_, rfl⟩
  obtain ⟨bs, hbs⟩ : ∃ bs, w.heap.size = bs := ⟨_, rfl⟩
  have hB0 : Below w.heap.size w w0 := by rw [← hw0]; exact (by repeat (first | exact Below.refl _ _ | assumption | refine bel_drew ?_ | refine bel_drewN ?_ _ | refine bel_alloc ?_ _ | refine bel_set ?_ (by first | (dsimp only; omega) | (simp; done) | (simp; omega)) _ | refine bel_trans ?_ (by assumption)))
  have D0 : Hid (w0.cell? ⟨bs, 0, none⟩ = some (.slice A n c)) := Lib.hid (by rw [← hw0, ← hbs]; simp [go_sem])
  have D1 : Hid (w0.cell? ⟨bs, 1, none⟩ = some (.int .i64 cur)) := Lib.hid (by rw [← hw0, ← hbs]; simp [go_sem])
  have R0 : Hid (w0.cell? ⟨bs + 1, 0, none⟩ = some (.slice none 0 0)) := Lib.hid (by rw [← hw0, ← hbs]; simp [go_sem])
  have R1 : Hid (w0.cell? ⟨bs + 1, 1, none⟩ = some (.int .i64 0)) := Lib.hid (by rw [← hw0, ← hbs]; simp [go_sem])
  have F0 : Hid (w0.frozen? ⟨bs + 1, 0, none⟩ = false) := Lib.hid (by rw [← hw0, ← hbs]; simp [go_sem])
  have F1 : Hid (w0.frozen? ⟨bs + 1, 1, none⟩ = false) := Lib.hid (by rw [← hw0, ← hbs]; simp [go_sem])
  have DS : Hid (bs + 1 < w0.heap.size) := Lib.hid (by rw [← hw0, ← hbs]; simp)
  have h0 := h.keep hB0
  have K1 := page_Right c cur h0 hn
  replace hw0 := Lib.hid hw0
  have HBS := Lib.hid hbs
  have HW0 := Lib.hid hB0
  rcases hr : PG.right xs cur with _ | _
  · rw [hr] at K1
    have e : PG.lay xs cur s a k = ([], 0, 0, 0, 2) := by unfold PG.lay; rw [if_pos hr]
    rw [e]
    replace K1 := Lib.hid K1
    clear h h0 hr e hB0 hbs
    go_enter Try.func47, Try.ntmps47
    go_wp2_with fail
    rw [hw0.out, HBS.out]
    refine K1.out.mono ?_
    rintro e w5 ⟨rfl, h5⟩
    have y0 := cell_after h5 (by have := DS.out; dsimp only; omega) R0.out
    have y1 := cell_after h5 (by have := DS.out; dsimp only; omega) R1.out
    have z0 := cell_after h5 (by have := DS.out; dsimp only; omega) D0.out
    have z1 := cell_after h5 (by have := DS.out; dsimp only; omega) D1.out
    have f0 := (h5.frozen (p := ⟨bs + 1, 0, none⟩) (by have := DS.out; dsimp only; omega)).trans F0.out
    have f1 := (h5.frozen (p := ⟨bs + 1, 1, none⟩) (by have := DS.out; dsimp only; omega)).trans F1.out
    have B5 := bel_trans' HW0.out h5 HW0.out.size
    have hsz := HBS.out
    go_wp2_with fail
    have g2 : ∀ v u, ((w5.setCell ⟨bs + 1, 0, none⟩ v).setCell ⟨bs + 1, 1, none⟩ u).cell? ⟨bs + 1, 1, none⟩ = some u := fun v u => World.cell?_setCell_same _ _ _ ((World.cell?_setCell_other _ _ _ _ (by simp)).trans y1)
    have g3 : ∀ v, (w5.setCell ⟨bs + 1, 0, none⟩ v).cell? ⟨bs + 1, 0, none⟩ = some v := fun v => World.cell?_setCell_same _ _ _ y0
    refine bodyPost_ret (v := .tuple #[.agg #[.slice none 0 0, .int .i64 0], .int .i64 0, .int .i64 0, .int .i64 2]) (by simp [results, Try.results47, go_sem, g2, g3]) rfl ?_
    exact ⟨_, rfl, OwnI.nil _ _, (by repeat (first | exact Below.refl _ _ | assumption | refine bel_drew ?_ | refine bel_drewN ?_ _ | refine bel_alloc ?_ _ | refine bel_set ?_ (by first | (dsimp only; omega) | (simp; done) | (simp; omega)) _ | refine bel_trans ?_ (by assumption)))⟩
  · rw [hr] at K1
    have K2 := fun W => bump_Place cur s a k W bc bs' ba bk
    have K3 : Hid (∀ W, Below w0.heap.size w0 W → Calls Try.prog 59 #[.agg #[.slice A n c, .int .i64 cur]] W fun e w' => e = .returned (.int .i64 (PG.last xs cur)) ∧ Below W.heap.size W w') := Lib.hid (fun W hW => page_Last c cur (h0.keep hW) hn)
    have K4 : Hid (∀ W, Below w0.heap.size w0 W → Calls Try.prog 85 #[.agg #[.slice A n c, .int .i64 cur]] W (GivesP W xs cur)) := Lib.hid (fun W hW => page_own c cur (h0.keep hW) hn)
    have HL : PG.lay xs cur s a k = (if (PB.place cur s a k).2.2 ≠ 0 then ([], 0, 0, 0, (PB.place cur s a k).2.2) else if xs = [] then ([], 0, 0, 0, 9) else (xs, (PB.place cur s a k).2.1, PG.last xs cur, (PB.place cur s a k).1, 0)) := by unfold PG.lay; rw [if_neg (by rw [hr]; simp)]
    have HLA : xs = [] → PG.last xs cur = -1 := by rintro rfl; unfold PG.last; simp
    have HLB : xs ≠ [] → 0 ≤ PG.last xs cur := by
      intro hx
      unfold PG.last
      rw [hr, decide_eq_true hx]
      have hlen : 0 < xs.length := List.length_pos_iff.2 hx
      have := ((PG.right_iff.1 hr).2.2 (xs.length - 1) (by omega)).1
      simpa using ((PG.fit_iff _).1 this).1
    generalize PB.place cur s a k = pl at *
    obtain ⟨p1, p2, p3⟩ := pl
    dsimp only at HL K2
    generalize PG.last xs cur = la at *
    generalize PG.lay xs cur s a k = LY at *
    replace K1 := Lib.hid K1
    replace K2 := Lib.hid K2
    clear h h0 hB0 hbs hr
    by_cases hp3 : p3 = 0
    · subst hp3
      rw [if_neg (by simp)] at HL
      by_cases hx : xs = []
      · rw [if_pos hx] at HL
        have hla := HLA hx
        subst HL hla
        clear HLA HLB K4 hx
        go_enter Try.func47, Try.ntmps47
        go_wp2_with fail
        rw [hw0.out, HBS.out]
        refine K1.out.mono ?_
        rintro e w5 ⟨rfl, h5⟩
        have y0 := cell_after h5 (by have := DS.out; dsimp only; omega) R0.out
        have y1 := cell_after h5 (by have := DS.out; dsimp only; omega) R1.out
        have z0 := cell_after h5 (by have := DS.out; dsimp only; omega) D0.out
        have z1 := cell_after h5 (by have := DS.out; dsimp only; omega) D1.out
        have f0 := (h5.frozen (p := ⟨bs + 1, 0, none⟩) (by have := DS.out; dsimp only; omega)).trans F0.out
        have f1 := (h5.frozen (p := ⟨bs + 1, 1, none⟩) (by have := DS.out; dsimp only; omega)).trans F1.out
        go_wp2_with fail
        refine (K2.out _).mono ?_
        rintro e w6 ⟨rfl, rfl⟩
        go_wp2_with fail
        refine (K3.out _ h5).mono ?_
        rintro e w7 ⟨rfl, h7⟩
        have h5b := bel_trans h5 h7
        clear z0 z1 y0 y1 f0 f1
        have y0 := cell_after h5b (by have := DS.out; dsimp only; omega) R0.out
        have y1 := cell_after h5b (by have := DS.out; dsimp only; omega) R1.out
        have z0 := cell_after h5b (by have := DS.out; dsimp only; omega) D0.out
        have z1 := cell_after h5b (by have := DS.out; dsimp only; omega) D1.out
        have f0 := (h5b.frozen (p := ⟨bs + 1, 0, none⟩) (by have := DS.out; dsimp only; omega)).trans F0.out
        have f1 := (h5b.frozen (p := ⟨bs + 1, 1, none⟩) (by have := DS.out; dsimp only; omega)).trans F1.out
        have B5 := bel_trans' HW0.out h5b HW0.out.size
        have hsz := HBS.out
        go_wp2_with fail
        have g2 : ∀ v u, ((w7.setCell ⟨bs + 1, 0, none⟩ v).setCell ⟨bs + 1, 1, none⟩ u).cell? ⟨bs + 1, 1, none⟩ = some u := fun v u => World.cell?_setCell_same _ _ _ ((World.cell?_setCell_other _ _ _ _ (by simp)).trans y1)
        have g3 : ∀ v, (w7.setCell ⟨bs + 1, 0, none⟩ v).cell? ⟨bs + 1, 0, none⟩ = some v := fun v => World.cell?_setCell_same _ _ _ y0
        refine bodyPost_ret (v := .tuple #[.agg #[.slice none 0 0, .int .i64 0], .int .i64 0, .int .i64 0, .int .i64 9]) (by simp [results, Try.results47, go_sem, g2, g3]) rfl ?_
        exact ⟨_, rfl, OwnI.nil _ _, (by repeat (first | exact Below.refl _ _ | assumption | refine bel_drew ?_ | refine bel_drewN ?_ _ | refine bel_alloc ?_ _ | refine bel_set ?_ (by first | (dsimp only; omega) | (simp; done) | (simp; omega)) _ | refine bel_trans ?_ (by assumption)))⟩
      · rw [if_neg hx] at HL
        have hla := HLB hx
        have q3 : decide (la < 0) = false := by simpa using hla
        subst HL
        clear HLA HLB hx
        go_enter Try.func47, Try.ntmps47
        go_wp2_with fail
        rw [hw0.out, HBS.out]
        refine K1.out.mono ?_
        rintro e w5 ⟨rfl, h5⟩
        have y0 := cell_after h5 (by have := DS.out; dsimp only; omega) R0.out
        have y1 := cell_after h5 (by have := DS.out; dsimp only; omega) R1.out
        have z0 := cell_after h5 (by have := DS.out; dsimp only; omega) D0.out
        have z1 := cell_after h5 (by have := DS.out; dsimp only; omega) D1.out
        have f0 := (h5.frozen (p := ⟨bs + 1, 0, none⟩) (by have := DS.out; dsimp only; omega)).trans F0.out
        have f1 := (h5.frozen (p := ⟨bs + 1, 1, none⟩) (by have := DS.out; dsimp only; omega)).trans F1.out
        go_wp2_with fail
        refine (K2.out _).mono ?_
        rintro e w6 ⟨rfl, rfl⟩
        go_wp2_with fail
        refine (K3.out _ h5).mono ?_
        rintro e w7 ⟨rfl, h7⟩
        have h5b := bel_trans h5 h7
        clear z0 z1 y0 y1 f0 f1
        have y0 := cell_after h5b (by have := DS.out; dsimp only; omega) R0.out
        have y1 := cell_after h5b (by have := DS.out; dsimp only; omega) R1.out
        have z0 := cell_after h5b (by have := DS.out; dsimp only; omega) D0.out
        have z1 := cell_after h5b (by have := DS.out; dsimp only; omega) D1.out
        have f0 := (h5b.frozen (p := ⟨bs + 1, 0, none⟩) (by have := DS.out; dsimp only; omega)).trans F0.out
        have f1 := (h5b.frozen (p := ⟨bs + 1, 1, none⟩) (by have := DS.out; dsimp only; omega)).trans F1.out
        go_wp2_with fail
        refine (K4.out _ h5b).mono ?_
        rintro e w8 ⟨v8, rfl, ho8, h8⟩
        obtain ⟨A8, c8, rfl, i8, hlc, hcm⟩ := ho8.ints
        have h8b := bel_trans h5b h8
        clear z0 z1 y0 y1 f0 f1
        have y0 := cell_after h8b (by have := DS.out; dsimp only; omega) R0.out
        have y1 := cell_after h8b (by have := DS.out; dsimp only; omega) R1.out
        have z0 := cell_after h8b (by have := DS.out; dsimp only; omega) D0.out
        have z1 := cell_after h8b (by have := DS.out; dsimp only; omega) D1.out
        have f0 := (h8b.frozen (p := ⟨bs + 1, 0, none⟩) (by have := DS.out; dsimp only; omega)).trans F0.out
        have f1 := (h8b.frozen (p := ⟨bs + 1, 1, none⟩) (by have := DS.out; dsimp only; omega)).trans F1.out
        have B5 := bel_trans' HW0.out h8b HW0.out.size
        have hsz := HBS.out
        have O8 := Lib.hid ho8
        have sz7 := Nat.lt_of_lt_of_le DS.out h5b.size
        have sz8 := Nat.lt_of_lt_of_le DS.out h8b.size
        clear i8 ho8
        go_wp2_with fail
        have g2 : ∀ v u, ((w8.setCell ⟨bs + 1, 0, none⟩ v).setCell ⟨bs + 1, 1, none⟩ u).cell? ⟨bs + 1, 1, none⟩ = some u := fun v u => World.cell?_setCell_same _ _ _ ((World.cell?_setCell_other _ _ _ _ (by simp)).trans y1)
        have g3 : ∀ v, (w8.setCell ⟨bs + 1, 0, none⟩ v).cell? ⟨bs + 1, 0, none⟩ = some v := fun v => World.cell?_setCell_same _ _ _ y0
        have g5 : ∀ v u o, (((w8.setCell ⟨bs + 1, 0, none⟩ v).setCell ⟨bs + 1, 1, none⟩ u).alloc o).cell? ⟨bs + 1, 1, none⟩ = some u := fun v u o => cell_alloc _ (by simp; omega) (g2 v u)
        have g6 : ∀ v u o, (((w8.setCell ⟨bs + 1, 0, none⟩ v).setCell ⟨bs + 1, 1, none⟩ u).alloc o).cell? ⟨bs + 1, 0, none⟩ = some v := fun v u o => cell_alloc _ (by simp; omega) ((World.cell?_setCell_other _ _ _ _ (by simp)).trans (g3 v))
        refine bodyPost_ret (v := .tuple #[.agg #[.slice A8 xs.length c8, .int .i64 p2], .int .i64 la, .int .i64 p1, .int .i64 0]) (by simp [results, Try.results47, go_sem, g2, g3, g5, g6]) rfl ?_
        refine ⟨_, rfl, ?_, (by repeat (first | exact Below.refl _ _ | assumption | refine bel_drew ?_ | refine bel_drewN ?_ _ | refine bel_alloc ?_ _ | refine bel_set ?_ (by first | (dsimp only; omega) | (simp; done) | (simp; omega)) _ | refine bel_trans ?_ (by assumption)))⟩
        exact OwnI.mono (((O8.out.keepSet _ _ (by dsimp only; omega)).keepSet _ _ (by dsimp only; omega)).keep (bel_alloc (Below.refl _ _) _)) (by omega)
    · rw [if_pos hp3] at HL
      have q1 : (p3 == 0) = false := by simpa using hp3
      have q2 : (p3 != 0) = true := by simpa using hp3
      subst HL
      clear HLA HLB K4 hp3
      go_enter Try.func47, Try.ntmps47
      go_wp2_with fail
      rw [hw0.out, HBS.out]
      refine K1.out.mono ?_
      rintro e w5 ⟨rfl, h5⟩
      have y0 := cell_after h5 (by have := DS.out; dsimp only; omega) R0.out
      have y1 := cell_after h5 (by have := DS.out; dsimp only; omega) R1.out
      have z0 := cell_after h5 (by have := DS.out; dsimp only; omega) D0.out
      have z1 := cell_after h5 (by have := DS.out; dsimp only; omega) D1.out
      have f0 := (h5.frozen (p := ⟨bs + 1, 0, none⟩) (by have := DS.out; dsimp only; omega)).trans F0.out
      have f1 := (h5.frozen (p := ⟨bs + 1, 1, none⟩) (by have := DS.out; dsimp only; omega)).trans F1.out
      go_wp2_with fail
      refine (K2.out _).mono ?_
      rintro e w6 ⟨rfl, rfl⟩
      go_wp2_with fail
      refine (K3.out _ h5).mono ?_
      rintro e w7 ⟨rfl, h7⟩
      have h5b := bel_trans h5 h7
      clear z0 z1 y0 y1 f0 f1
      have y0 := cell_after h5b (by have := DS.out; dsimp only; omega) R0.out
      have y1 := cell_after h5b (by have := DS.out; dsimp only; omega) R1.out
      have z0 := cell_after h5b (by have := DS.out; dsimp only; omega) D0.out
      have z1 := cell_after h5b (by have := DS.out; dsimp only; omega) D1.out
      have f0 := (h5b.frozen (p := ⟨bs + 1, 0, none⟩) (by have := DS.out; dsimp only; omega)).trans F0.out
      have f1 := (h5b.frozen (p := ⟨bs + 1, 1, none⟩) (by have := DS.out; dsimp only; omega)).trans F1.out
      have B5 := bel_trans' HW0.out h5b HW0.out.size
      have hsz := HBS.out
      go_wp2_with fail
      have g2 : ∀ v u, ((w7.setCell ⟨bs + 1, 0, none⟩ v).setCell ⟨bs + 1, 1, none⟩ u).cell? ⟨bs + 1, 1, none⟩ = some u := fun v u => World.cell?_setCell_same _ _ _ ((World.cell?_setCell_other _ _ _ _ (by simp)).trans y1)
      have g3 : ∀ v, (w7.setCell ⟨bs + 1, 0, none⟩ v).cell? ⟨bs + 1, 0, none⟩ = some v := fun v => World.cell?_setCell_same _ _ _ y0
      refine bodyPost_ret (v := .tuple #[.agg #[.slice none 0 0, .int .i64 0], .int .i64 0, .int .i64 0, .int .i64 p3]) (by simp [results, Try.results47, go_sem, g2, g3]) rfl ?_
      exact ⟨_, rfl, OwnI.nil _ _, (by repeat (first | exact Below.refl _ _ | assumption | refine bel_drew ?_ | refine bel_drewN ?_ _ | refine bel_alloc ?_ _ | refine bel_set ?_ (by first | (dsimp only; omega) | (simp; done) | (simp; omega)) _ | refine bel_trans ?_ (by assumption)))⟩
set_option maxRecDepth 100000 in
set_option maxHeartbeats 8000000 in
theorem page_AddO {A : Option Addr} {n : Nat} {xs : List Int} (c : Nat) (cur i : Int) {w : World} (h : IntsAt w A n xs) (hn : n ≤ 100000) :
    Calls Try.prog 48 #[.agg #[.slice A n c, .int .i64 cur], .int .i64 i] w (GivesAddO w (PG.add xs cur i)) := by
  obtain ⟨w0, hw0⟩ : ∃ w0, (w.alloc (.cells #[.slice A n c, .int .i64 cur] 53)).alloc (.cells #[.slice none 0 0, .int .i64 0] 53) = w0 := ⟨_, rfl⟩
  obtain ⟨bs, hbs⟩ : ∃ bs, w.heap.size = bs := ⟨_, rfl⟩
  have hB0 : Below w.heap.size w w0 := by rw [← hw0]; exact (by repeat (first | exact Below.refl _ _ | assumption | refine bel_drew ?_ | refine bel_drewN ?_ _ | refine bel_alloc ?_ _ | refine bel_set ?_ (by first | (dsimp only; omega) | (simp; done) | (simp; omega)) _ | refine bel_trans ?_ (by assumption)))
  have D0 : Hid (w0.cell? ⟨bs, 0, none⟩ = some (.slice A n c)) := Lib.hid (by rw [← hw0, ← hbs]; simp [go_sem])
  have D1 : Hid (w0.cell? ⟨bs, 1, none⟩ = some (.int .i64 cur)) := Lib.hid (by rw [← hw0, ← hbs]; simp [go_sem])
  have R0 : Hid (w0.cell? ⟨bs + 1, 0, none⟩ = some (.slice none 0 0)) := Lib.hid (by rw [← hw0, ← hbs]; simp [go_sem])
  have R1 : Hid (w0.cell? ⟨bs + 1, 1, none⟩ = some (.int .i64 0)) := Lib.hid (by rw [← hw0, ← hbs]; simp [go_sem])
  have F0 : Hid (w0.frozen? ⟨bs + 1, 0, none⟩ = false) := Lib.hid (by rw [← hw0, ← hbs]; simp [go_sem])
  have F1 : Hid (w0.frozen? ⟨bs + 1, 1, none⟩ = false) := Lib.hid (by rw [← hw0, ← hbs]; simp [go_sem])
  have DS : Hid (bs + 1 < w0.heap.size) := Lib.hid (by rw [← hw0, ← hbs]; simp)
  have h0 := h.keep hB0
  have K1 := page_Right c cur h0 hn
  have K2 := fun W => page_is i W
  have HLN : Hid (xs.length + 1 ≤ 1048576) := Lib.hid (by have := h.1; omega)
  have K3 : Hid (∀ W, Below w0.heap.size w0 W → Calls Try.prog 87 #[.slice A n c, .int .i64 i] W fun e w' => e = .returned (.bool (decide (i ∈ xs))) ∧ Below W.heap.size W w') := Lib.hid (fun W hW => slices_ContainsI c i (h0.keep hW))
  have K4 : Hid (∀ W, Below w0.heap.size w0 W → Calls Try.prog 85 #[.agg #[.slice A n c, .int .i64 cur]] W (GivesP W xs cur)) := Lib.hid (fun W hW => page_own c cur (h0.keep hW) hn)
  replace hw0 := Lib.hid hw0
  have HBS := Lib.hid hbs
  have HW0 := Lib.hid hB0
  have HL : PG.add xs cur i = (if PG.right xs cur = false ∨ PG.fit i = false then ([], 2) else if i ∈ xs then ([], 19) else (xs ++ [i], 0)) := rfl
  generalize PG.add xs cur i = LY at *
  rcases hr : PG.right xs cur with _ | _
  · rw [hr] at K1
    rw [if_pos (Or.inl hr)] at HL
    subst HL
    replace K1 := Lib.hid K1
    clear h h0 hr hB0 hbs K2 K3 K4
    go_enter Try.func48, Try.ntmps48
    go_wp2_with fail
    rw [hw0.out, HBS.out]
    refine K1.out.mono ?_
    rintro e w5 ⟨rfl, h5⟩
    have y0 := cell_after h5 (by have := DS.out; dsimp only; omega) R0.out
    have y1 := cell_after h5 (by have := DS.out; dsimp only; omega) R1.out
    have z0 := cell_after h5 (by have := DS.out; dsimp only; omega) D0.out
    have z1 := cell_after h5 (by have := DS.out; dsimp only; omega) D1.out
    have f0 := (h5.frozen (p := ⟨bs + 1, 0, none⟩) (by have := DS.out; dsimp only; omega)).trans F0.out
    have f1 := (h5.frozen (p := ⟨bs + 1, 1, none⟩) (by have := DS.out; dsimp only; omega)).trans F1.out
    have B5 := bel_trans' HW0.out h5 HW0.out.size
    have hsz := HBS.out
    go_wp2_with fail
    have g2 : ∀ v u, ((w5.setCell ⟨bs + 1, 0, none⟩ v).setCell ⟨bs + 1, 1, none⟩ u).cell? ⟨bs + 1, 1, none⟩ = some u := fun v u => World.cell?_setCell_same _ _ _ ((World.cell?_setCell_other _ _ _ _ (by simp)).trans y1)
    have g3 : ∀ v, (w5.setCell ⟨bs + 1, 0, none⟩ v).cell? ⟨bs + 1, 0, none⟩ = some v := fun v => World.cell?_setCell_same _ _ _ y0
    refine bodyPost_ret (v := .tuple #[.agg #[.slice none 0 0, .int .i64 0], .int .i64 2]) (by simp [results, Try.results48, go_sem, g2, g3]) rfl ?_
    exact ⟨_, rfl, OwnI.nil _ _, (by repeat (first | exact Below.refl _ _ | assumption | refine bel_drew ?_ | refine bel_drewN ?_ _ | refine bel_alloc ?_ _ | refine bel_set ?_ (by first | (dsimp only; omega) | (simp; done) | (simp; omega)) _ | refine bel_trans ?_ (by assumption)))⟩
  rw [hr] at K1
  rcases hf : PG.fit i with _ | _
  · rw [if_pos (Or.inr hf)] at HL
    subst HL
    rw [hf] at K2
    replace K1 := Lib.hid K1
    replace K2 := Lib.hid K2
    clear h h0 hr hB0 hbs K3 K4 hf
    go_enter Try.func48, Try.ntmps48
    go_wp2_with fail
    rw [hw0.out, HBS.out]
    refine K1.out.mono ?_
    rintro e w5 ⟨rfl, h5⟩
    have y0 := cell_after h5 (by have := DS.out; dsimp only; omega) R0.out
    have y1 := cell_after h5 (by have := DS.out; dsimp only; omega) R1.out
    have z0 := cell_after h5 (by have := DS.out; dsimp only; omega) D0.out
    have z1 := cell_after h5 (by have := DS.out; dsimp only; omega) D1.out
    have f0 := (h5.frozen (p := ⟨bs + 1, 0, none⟩) (by have := DS.out; dsimp only; omega)).trans F0.out
    have f1 := (h5.frozen (p := ⟨bs + 1, 1, none⟩) (by have := DS.out; dsimp only; omega)).trans F1.out
    have B5 := bel_trans' HW0.out h5 HW0.out.size
    have hsz := HBS.out
    go_wp2_with fail
    refine (K2.out _).mono ?_
    rintro e w6 ⟨rfl, rfl⟩
    go_wp2_with fail
    have g2 : ∀ v u, ((w5.setCell ⟨bs + 1, 0, none⟩ v).setCell ⟨bs + 1, 1, none⟩ u).cell? ⟨bs + 1, 1, none⟩ = some u := fun v u => World.cell?_setCell_same _ _ _ ((World.cell?_setCell_other _ _ _ _ (by simp)).trans y1)
    have g3 : ∀ v, (w5.setCell ⟨bs + 1, 0, none⟩ v).cell? ⟨bs + 1, 0, none⟩ = some v := fun v => World.cell?_setCell_same _ _ _ y0
    refine bodyPost_ret (v := .tuple #[.agg #[.slice none 0 0, .int .i64 0], .int .i64 2]) (by simp [results, Try.results48, go_sem, g2, g3]) rfl ?_
    exact ⟨_, rfl, OwnI.nil _ _, (by repeat (first | exact Below.refl _ _ | assumption | refine bel_drew ?_ | refine bel_drewN ?_ _ | refine bel_alloc ?_ _ | refine bel_set ?_ (by first | (dsimp only; omega) | (simp; done) | (simp; omega)) _ | refine bel_trans ?_ (by assumption)))⟩
  rw [hf] at K2
  rw [if_neg (by rw [hr, hf]; simp)] at HL
  replace K1 := Lib.hid K1
  replace K2 := Lib.hid K2
  by_cases hm : i ∈ xs
  · rw [if_pos hm] at HL
    subst HL
    rw [decide_eq_true hm] at K3
    clear h h0 hr hB0 hbs K4 hf hm
    go_enter Try.func48, Try.ntmps48
    go_wp2_with fail
    rw [hw0.out, HBS.out]
    refine K1.out.mono ?_
    rintro e w5 ⟨rfl, h5⟩
    have y0 := cell_after h5 (by have := DS.out; dsimp only; omega) R0.out
    have y1 := cell_after h5 (by have := DS.out; dsimp only; omega) R1.out
    have z0 := cell_after h5 (by have := DS.out; dsimp only; omega) D0.out
    have z1 := cell_after h5 (by have := DS.out; dsimp only; omega) D1.out
    have f0 := (h5.frozen (p := ⟨bs + 1, 0, none⟩) (by have := DS.out; dsimp only; omega)).trans F0.out
    have f1 := (h5.frozen (p := ⟨bs + 1, 1, none⟩) (by have := DS.out; dsimp only; omega)).trans F1.out
    go_wp2_with fail
    refine (K2.out _).mono ?_
    rintro e w6 ⟨rfl, rfl⟩
    go_wp2_with fail
    refine (K3.out _ h5).mono ?_
    rintro e w7 ⟨rfl, h7⟩
    have h5b := bel_trans h5 h7
    clear z0 z1 y0 y1 f0 f1
    have y0 := cell_after h5b (by have := DS.out; dsimp only; omega) R0.out
    have y1 := cell_after h5b (by have := DS.out; dsimp only; omega) R1.out
    have z0 := cell_after h5b (by have := DS.out; dsimp only; omega) D0.out
    have z1 := cell_after h5b (by have := DS.out; dsimp only; omega) D1.out
    have f0 := (h5b.frozen (p := ⟨bs + 1, 0, none⟩) (by have := DS.out; dsimp only; omega)).trans F0.out
    have f1 := (h5b.frozen (p := ⟨bs + 1, 1, none⟩) (by have := DS.out; dsimp only; omega)).trans F1.out
    have B5 := bel_trans' HW0.out h5b HW0.out.size
    have hsz := HBS.out
    go_wp2_with fail
    have g2 : ∀ v u, ((w7.setCell ⟨bs + 1, 0, none⟩ v).setCell ⟨bs + 1, 1, none⟩ u).cell? ⟨bs + 1, 1, none⟩ = some u := fun v u => World.cell?_setCell_same _ _ _ ((World.cell?_setCell_other _ _ _ _ (by simp)).trans y1)
    have g3 : ∀ v, (w7.setCell ⟨bs + 1, 0, none⟩ v).cell? ⟨bs + 1, 0, none⟩ = some v := fun v => World.cell?_setCell_same _ _ _ y0
    refine bodyPost_ret (v := .tuple #[.agg #[.slice none 0 0, .int .i64 0], .int .i64 19]) (by simp [results, Try.results48, go_sem, g2, g3]) rfl ?_
    exact ⟨_, rfl, OwnI.nil _ _, (by repeat (first | exact Below.refl _ _ | assumption | refine bel_drew ?_ | refine bel_drewN ?_ _ | refine bel_alloc ?_ _ | refine bel_set ?_ (by first | (dsimp only; omega) | (simp; done) | (simp; omega)) _ | refine bel_trans ?_ (by assumption)))⟩
  · rw [if_neg hm] at HL
    subst HL
    rw [decide_eq_false hm] at K3
    clear h h0 hr hB0 hbs hf hm
    go_enter Try.func48, Try.ntmps48
    go_wp2_with fail
    rw [hw0.out, HBS.out]
    refine K1.out.mono ?_
    rintro e w5 ⟨rfl, h5⟩
    have y0 := cell_after h5 (by have := DS.out; dsimp only; omega) R0.out
    have y1 := cell_after h5 (by have := DS.out; dsimp only; omega) R1.out
    have z0 := cell_after h5 (by have := DS.out; dsimp only; omega) D0.out
    have z1 := cell_after h5 (by have := DS.out; dsimp only; omega) D1.out
    have f0 := (h5.frozen (p := ⟨bs + 1, 0, none⟩) (by have := DS.out; dsimp only; omega)).trans F0.out
    have f1 := (h5.frozen (p := ⟨bs + 1, 1, none⟩) (by have := DS.out; dsimp only; omega)).trans F1.out
    go_wp2_with fail
    refine (K2.out _).mono ?_
    rintro e w6 ⟨rfl, rfl⟩
    go_wp2_with fail
    refine (K3.out _ h5).mono ?_
    rintro e w7 ⟨rfl, h7⟩
    have h5b := bel_trans h5 h7
    clear z0 z1 y0 y1 f0 f1
    have y0 := cell_after h5b (by have := DS.out; dsimp only; omega) R0.out
    have y1 := cell_after h5b (by have := DS.out; dsimp only; omega) R1.out
    have z0 := cell_after h5b (by have := DS.out; dsimp only; omega) D0.out
    have z1 := cell_after h5b (by have := DS.out; dsimp only; omega) D1.out
    have f0 := (h5b.frozen (p := ⟨bs + 1, 0, none⟩) (by have := DS.out; dsimp only; omega)).trans F0.out
    have f1 := (h5b.frozen (p := ⟨bs + 1, 1, none⟩) (by have := DS.out; dsimp only; omega)).trans F1.out
    go_wp2_with fail
    refine (K4.out _ h5b).mono ?_
    rintro e w8 ⟨v8, rfl, ho8, h8⟩
    obtain ⟨A8, c8, rfl, i8, hlc, hcm⟩ := ho8.ints
    have h8b := bel_trans h5b h8
    clear z0 z1 y0 y1 f0 f1
    have y0 := cell_after h8b (by have := DS.out; dsimp only; omega) R0.out
    have y1 := cell_after h8b (by have := DS.out; dsimp only; omega) R1.out
    have z0 := cell_after h8b (by have := DS.out; dsimp only; omega) D0.out
    have z1 := cell_after h8b (by have := DS.out; dsimp only; omega) D1.out
    have f0 := (h8b.frozen (p := ⟨bs + 1, 0, none⟩) (by have := DS.out; dsimp only; omega)).trans F0.out
    have f1 := (h8b.frozen (p := ⟨bs + 1, 1, none⟩) (by have := DS.out; dsimp only; omega)).trans F1.out
    have B5 := bel_trans' HW0.out h8b HW0.out.size
    have hsz := HBS.out
    have O8 := Lib.hid ho8
    have sz7 := Nat.lt_of_lt_of_le DS.out h5b.size
    have sz78 := h8.size
    clear i8 ho8
    go_wp2_with (at_builtin; (refine app_listI rfl (.tmp 26) (.tmp 28) rfl w7.heap.size _ xs rfl (O8.out.keep (by exact (by repeat (first | exact Below.refl _ _ | assumption | refine bel_drew ?_ | refine bel_drewN ?_ _ | refine bel_alloc ?_ _ | refine bel_set ?_ (by first | (dsimp only; omega) | (simp; done) | (simp; omega)) _ | refine bel_trans ?_ (by assumption))))) (some ⟨w8.heap.size + 1, 0, none⟩) 1 1 [i] rfl (src_oneI (by simp [go_sem])) HLN.out (by first | omega | (dsimp only; omega) | (simp; omega) | (dsimp only; simp; omega)) ?_; intro v9 w9 ho9 hb9; obtain ⟨A9, c9, rfl, _⟩ := ho9.ints; replace ho9 := Lib.hid ho9; have B9 := bel_trans' (show Below w.heap.size w _ from (by repeat (first | exact Below.refl _ _ | assumption | refine bel_drew ?_ | refine bel_drewN ?_ _ | refine bel_alloc ?_ _ | refine bel_set ?_ (by first | (dsimp only; omega) | (simp; done) | (simp; omega)) _ | refine bel_trans ?_ (by assumption)))) hb9 (by omega); have q8 := bel_alloc (bel_alloc (Below.refl w8.heap.size w8) (.cells #[.slice A8 xs.length c8, .int .i64 cur] 53)) (.cells #[.int .i64 i] 3); have hs8 : bs + 1 < w8.heap.size := (by omega); have hs7 : bs + 1 < w7.heap.size := (by omega); have Y0 := (hb9.cell (p := ⟨bs + 1, 0, none⟩) hs7).trans (cell_after q8 hs8 y0); have Y1 := (hb9.cell (p := ⟨bs + 1, 1, none⟩) hs7).trans (cell_after q8 hs8 y1); have G0 := (hb9.frozen (p := ⟨bs + 1, 0, none⟩) hs7).trans ((q8.frozen (p := ⟨bs + 1, 0, none⟩) hs8).trans f0); have G1 := (hb9.frozen (p := ⟨bs + 1, 1, none⟩) hs7).trans ((q8.frozen (p := ⟨bs + 1, 1, none⟩) hs8).trans f1)))
    have g2 : ∀ v u, ((w9.setCell ⟨bs + 1, 0, none⟩ v).setCell ⟨bs + 1, 1, none⟩ u).cell? ⟨bs + 1, 1, none⟩ = some u := fun v u => World.cell?_setCell_same _ _ _ ((World.cell?_setCell_other _ _ _ _ (by simp)).trans Y1)
    have g3 : ∀ v, (w9.setCell ⟨bs + 1, 0, none⟩ v).cell? ⟨bs + 1, 0, none⟩ = some v := fun v => World.cell?_setCell_same _ _ _ Y0
    refine bodyPost_ret (v := .tuple #[.agg #[.slice A9 (xs ++ [i]).length c9, .int .i64 0], .int .i64 0]) (by simp [results, Try.results48, go_sem, g2, g3]) rfl ?_
    exact ⟨_, by first | rfl | (simp; done), OwnI.mono ((ho9.out.keepSet _ _ (by dsimp only; omega)).keepSet _ _ (by dsimp only; omega)) (by omega), (by repeat (first | exact Below.refl _ _ | assumption | refine bel_drew ?_ | refine bel_drewN ?_ _ | refine bel_alloc ?_ _ | refine bel_set ?_ (by first | (dsimp only; omega) | (simp; done) | (simp; omega)) _ | refine bel_trans ?_ (by assumption)))⟩
end Go.Proofs.Ytfgfnfjeopjbgaa
