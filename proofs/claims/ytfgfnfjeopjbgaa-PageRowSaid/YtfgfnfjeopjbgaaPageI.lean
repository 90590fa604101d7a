/-
  Layer 39 (page): the reference's Add.
-/
import Derived.Test.YtfgfnfjeopjbgaaPageG
namespace Go.Proofs.Ytfgfnfjeopjbgaa
open Go.RowKit
set_option linter.unusedVariables false
set_option linter.unusedSimpArgs false
attribute [local go_sem] drewN_alloc drewN_setCell

set_option maxRecDepth 100000 in
set_option maxHeartbeats 8000000 in
theorem ref39_Add {A : Option Addr} {n : Nat} {xs : List Int} (c : Nat) (cur i : Int) {w : World} (h : IntsAt w A n xs) (hn : n ≤ 100000) :
    Calls Try.prog 57 #[.agg #[.slice A n c, .int .i64 cur], .int .i64 i] w (GivesAdd w (PG.add xs cur i)) := by
  obtain ⟨w0, hw0⟩ : ∃ w0, (w.alloc (.cells #[.slice A n c, .int .i64 cur] 62)).alloc (.cells #[.slice none 0 0, .int .i64 0] 62) = w0 := ⟨_, rfl⟩
  obtain ⟨bs, hbs⟩ : ∃ bs, w.heap.size = bs := ⟨_, rfl⟩
  have hB0 : Below w.heap.size w w0 := by rw [← hw0]; exact (by repeat (first | exact Below.refl _ _ | assumption | refine bel_drew ?_ | refine bel_drewN ?_ _ | refine bel_alloc ?_ _ | refine bel_set ?_ (by first | (dsimp only; omega) | (simp; done) | (simp; omega)) _ | refine bel_trans ?_ (by assumption)))
  have D0 : Hid (w0.cell? ⟨bs, 0, none⟩ = some (.slice A n c)) := Lib.hid (by rw [← hw0, ← hbs]; simp [go_sem])
  have D1 : Hid (w0.cell? ⟨bs, 1, none⟩ = some (.int .i64 cur)) := Lib.hid (by rw [← hw0, ← hbs]; simp [go_sem])
  have R0 : Hid (w0.cell? ⟨bs + 1, 0, none⟩ = some (.slice none 0 0)) := Lib.hid (by rw [← hw0, ← hbs]; simp [go_sem])
  have R1 : Hid (w0.cell? ⟨bs + 1, 1, none⟩ = some (.int .i64 0)) := Lib.hid (by rw [← hw0, ← hbs]; simp [go_sem])
  have F0 : Hid (w0.frozen? ⟨bs + 1, 0, none⟩ = false) := Lib.hid (by rw [← hw0, ← hbs]; simp [go_sem])
  have F1 : Hid (w0.frozen? ⟨bs + 1, 1, none⟩ = false) := Lib.hid (by rw [← hw0, ← hbs]; simp [go_sem])
  have DS : Hid (bs + 1 < w0.heap.size) := Lib.hid (by rw [← hw0, ← hbs]; simp)
  have h0 := h.keep hB0
  have K1 := ref39_Right c cur h0
  have HLN : Hid (xs.length + 1 ≤ 1048576 ∧ xs.length = n) := Lib.hid ⟨by have := h.1; omega, h.1⟩
  have K3 : Hid (∀ W, Below w0.heap.size w0 W → Calls Try.prog 91 #[.slice A n c, .int .i64 i] W fun e w' => e = .returned (.int .i64 (PG.place xs i)) ∧ Below W.heap.size W w') := Lib.hid (fun W hW => ref39_Place c i (h0.keep hW))
  have HI : Hid (∀ W, Below w0.heap.size w0 W → SrcS 1 W A n (cellsI xs)) := Lib.hid (fun W hW => (h0.keep hW).srcI)
  have KP := PG.place_ge xs i
  replace hw0 := Lib.hid hw0
  have HBS := Lib.hid hbs
  have HW0 := Lib.hid hB0
  have HL : PG.add xs cur i = (if PG.right xs cur = false ∨ PG.fit i = false then ([], 2) else if i ∈ xs then ([], 19) else (xs ++ [i], 0)) := rfl
  generalize PG.add xs cur i = LY at *
  rcases hr : PG.right xs cur with _ | _
  · rw [hr] at K1
    rw [if_pos (Or.inl hr)] at HL
    subst HL
    replace K1 := Lib.hid K1
    clear h h0 hr hB0 hbs K3 KP HI
    go_enter Try.func57, Try.ntmps57
    go_wp2_with fail
    rw [hw0.out, HBS.out]
    refine K1.out.mono ?_
    rintro e w5 ⟨rfl, h5⟩
    have y0 := cell_after h5 (by have := DS.out; dsimp only; omega) R0.out
    have y1 := cell_after h5 (by have := DS.out; dsimp only; omega) R1.out
    have z0 := cell_after h5 (by have := DS.out; dsimp only; omega) D0.out
    have z1 := cell_after h5 (by have := DS.out; dsimp only; omega) D1.out
    have f0 := (h5.frozen (p := ⟨bs + 1, 0, none⟩) (by have := DS.out; dsimp only; omega)).trans F0.out
    have f1 := (h5.frozen (p := ⟨bs + 1, 1, none⟩) (by have := DS.out; dsimp only; omega)).trans F1.out
    have B5 := bel_trans' HW0.out h5 HW0.out.size
    have hsz := HBS.out
    go_wp2_with fail
    have g2 : ∀ v u, ((w5.setCell ⟨bs + 1, 0, none⟩ v).setCell ⟨bs + 1, 1, none⟩ u).cell? ⟨bs + 1, 1, none⟩ = some u := fun v u => World.cell?_setCell_same _ _ _ ((World.cell?_setCell_other _ _ _ _ (by simp)).trans y1)
    have g3 : ∀ v, (w5.setCell ⟨bs + 1, 0, none⟩ v).cell? ⟨bs + 1, 0, none⟩ = some v := fun v => World.cell?_setCell_same _ _ _ y0
    refine bodyPost_ret (v := .tuple #[.agg #[.slice none 0 0, .int .i64 0], .int .i64 2]) (by simp [results, Try.results57, go_sem, g2, g3]) rfl ?_
    exact ⟨none, 0, 0, rfl, IntsAt.nil, (by repeat (first | exact Below.refl _ _ | assumption | refine bel_drew ?_ | refine bel_drewN ?_ _ | refine bel_alloc ?_ _ | refine bel_set ?_ (by first | (dsimp only; omega) | (simp; done) | (simp; omega)) _ | refine bel_trans ?_ (by assumption)))⟩
  rw [hr] at K1
  replace K1 := Lib.hid K1
  by_cases hi0 : 0 ≤ i
  case neg =>
    rw [if_pos (Or.inr (by simp [PG.fit]; omega))] at HL
    subst HL
    have hi0' : i < 0 := by omega
    clear h h0 hr hB0 hbs K3 KP HI hi0
    go_enter Try.func57, Try.ntmps57
    go_wp2_with fail
    rw [hw0.out, HBS.out]
    refine K1.out.mono ?_
    rintro e w5 ⟨rfl, h5⟩
    have y0 := cell_after h5 (by have := DS.out; dsimp only; omega) R0.out
    have y1 := cell_after h5 (by have := DS.out; dsimp only; omega) R1.out
    have z0 := cell_after h5 (by have := DS.out; dsimp only; omega) D0.out
    have z1 := cell_after h5 (by have := DS.out; dsimp only; omega) D1.out
    have f0 := (h5.frozen (p := ⟨bs + 1, 0, none⟩) (by have := DS.out; dsimp only; omega)).trans F0.out
    have f1 := (h5.frozen (p := ⟨bs + 1, 1, none⟩) (by have := DS.out; dsimp only; omega)).trans F1.out
    have B5 := bel_trans' HW0.out h5 HW0.out.size
    have hsz := HBS.out
    go_wp2_with fail
    have g2 : ∀ v u, ((w5.setCell ⟨bs + 1, 0, none⟩ v).setCell ⟨bs + 1, 1, none⟩ u).cell? ⟨bs + 1, 1, none⟩ = some u := fun v u => World.cell?_setCell_same _ _ _ ((World.cell?_setCell_other _ _ _ _ (by simp)).trans y1)
    have g3 : ∀ v, (w5.setCell ⟨bs + 1, 0, none⟩ v).cell? ⟨bs + 1, 0, none⟩ = some v := fun v => World.cell?_setCell_same _ _ _ y0
    refine bodyPost_ret (v := .tuple #[.agg #[.slice none 0 0, .int .i64 0], .int .i64 2]) (by simp [results, Try.results57, go_sem, g2, g3]) rfl ?_
    exact ⟨none, 0, 0, rfl, IntsAt.nil, (by repeat (first | exact Below.refl _ _ | assumption | refine bel_drew ?_ | refine bel_drewN ?_ _ | refine bel_alloc ?_ _ | refine bel_set ?_ (by first | (dsimp only; omega) | (simp; done) | (simp; omega)) _ | refine bel_trans ?_ (by assumption)))⟩
  by_cases hi1 : i ≤ 1048575
  case neg =>
    rw [if_pos (Or.inr (by simp [PG.fit]; omega))] at HL
    subst HL
    have hi1' : 1048576 ≤ i := by omega
    clear h h0 hr hB0 hbs K3 KP HI hi1
    go_enter Try.func57, Try.ntmps57
    go_wp2_with fail
    rw [hw0.out, HBS.out]
    refine K1.out.mono ?_
    rintro e w5 ⟨rfl, h5⟩
    have y0 := cell_after h5 (by have := DS.out; dsimp only; omega) R0.out
    have y1 := cell_after h5 (by have := DS.out; dsimp only; omega) R1.out
    have z0 := cell_after h5 (by have := DS.out; dsimp only; omega) D0.out
    have z1 := cell_after h5 (by have := DS.out; dsimp only; omega) D1.out
    have f0 := (h5.frozen (p := ⟨bs + 1, 0, none⟩) (by have := DS.out; dsimp only; omega)).trans F0.out
    have f1 := (h5.frozen (p := ⟨bs + 1, 1, none⟩) (by have := DS.out; dsimp only; omega)).trans F1.out
    have B5 := bel_trans' HW0.out h5 HW0.out.size
    have hsz := HBS.out
    go_wp2_with fail
    have g2 : ∀ v u, ((w5.setCell ⟨bs + 1, 0, none⟩ v).setCell ⟨bs + 1, 1, none⟩ u).cell? ⟨bs + 1, 1, none⟩ = some u := fun v u => World.cell?_setCell_same _ _ _ ((World.cell?_setCell_other _ _ _ _ (by simp)).trans y1)
    have g3 : ∀ v, (w5.setCell ⟨bs + 1, 0, none⟩ v).cell? ⟨bs + 1, 0, none⟩ = some v := fun v => World.cell?_setCell_same _ _ _ y0
    refine bodyPost_ret (v := .tuple #[.agg #[.slice none 0 0, .int .i64 0], .int .i64 2]) (by simp [results, Try.results57, go_sem, g2, g3]) rfl ?_
    exact ⟨none, 0, 0, rfl, IntsAt.nil, (by repeat (first | exact Below.refl _ _ | assumption | refine bel_drew ?_ | refine bel_drewN ?_ _ | refine bel_alloc ?_ _ | refine bel_set ?_ (by first | (dsimp only; omega) | (simp; done) | (simp; omega)) _ | refine bel_trans ?_ (by assumption)))⟩
  rw [if_neg (by rw [hr, (PG.fit_iff i).2 ⟨hi0, hi1⟩]; simp)] at HL
  have hi1' : i < 1048576 := by omega
  generalize PG.place xs i = pp at *
  by_cases hm : i ∈ xs
  · rw [if_pos hm] at HL
    subst HL
    rw [decide_eq_true hm] at KP
    clear h h0 hr hB0 hbs HI hm hi1
    go_enter Try.func57, Try.ntmps57
    go_wp2_with fail
    rw [hw0.out, HBS.out]
    refine K1.out.mono ?_
    rintro e w5 ⟨rfl, h5⟩
    have y0 := cell_after h5 (by have := DS.out; dsimp only; omega) R0.out
    have y1 := cell_after h5 (by have := DS.out; dsimp only; omega) R1.out
    have z0 := cell_after h5 (by have := DS.out; dsimp only; omega) D0.out
    have z1 := cell_after h5 (by have := DS.out; dsimp only; omega) D1.out
    have f0 := (h5.frozen (p := ⟨bs + 1, 0, none⟩) (by have := DS.out; dsimp only; omega)).trans F0.out
    have f1 := (h5.frozen (p := ⟨bs + 1, 1, none⟩) (by have := DS.out; dsimp only; omega)).trans F1.out
    go_wp2_with fail
    refine (K3.out _ h5).mono ?_
    rintro e w7 ⟨rfl, h7⟩
    have h5b := bel_trans h5 h7
    clear z0 z1 y0 y1 f0 f1
    have y0 := cell_after h5b (by have := DS.out; dsimp only; omega) R0.out
    have y1 := cell_after h5b (by have := DS.out; dsimp only; omega) R1.out
    have z0 := cell_after h5b (by have := DS.out; dsimp only; omega) D0.out
    have z1 := cell_after h5b (by have := DS.out; dsimp only; omega) D1.out
    have f0 := (h5b.frozen (p := ⟨bs + 1, 0, none⟩) (by have := DS.out; dsimp only; omega)).trans F0.out
    have f1 := (h5b.frozen (p := ⟨bs + 1, 1, none⟩) (by have := DS.out; dsimp only; omega)).trans F1.out
    have B5 := bel_trans' HW0.out h5b HW0.out.size
    have hsz := HBS.out
    go_wp2_with fail
    have g2 : ∀ v u, ((w7.setCell ⟨bs + 1, 0, none⟩ v).setCell ⟨bs + 1, 1, none⟩ u).cell? ⟨bs + 1, 1, none⟩ = some u := fun v u => World.cell?_setCell_same _ _ _ ((World.cell?_setCell_other _ _ _ _ (by simp)).trans y1)
    have g3 : ∀ v, (w7.setCell ⟨bs + 1, 0, none⟩ v).cell? ⟨bs + 1, 0, none⟩ = some v := fun v => World.cell?_setCell_same _ _ _ y0
    refine bodyPost_ret (v := .tuple #[.agg #[.slice none 0 0, .int .i64 0], .int .i64 19]) (by simp [results, Try.results57, go_sem, g2, g3]) rfl ?_
    exact ⟨none, 0, 0, rfl, IntsAt.nil, (by repeat (first | exact Below.refl _ _ | assumption | refine bel_drew ?_ | refine bel_drewN ?_ _ | refine bel_alloc ?_ _ | refine bel_set ?_ (by first | (dsimp only; omega) | (simp; done) | (simp; omega)) _ | refine bel_trans ?_ (by assumption)))⟩
  · rw [if_neg hm] at HL
    subst HL
    rw [decide_eq_false hm] at KP
    have KP' : pp < 0 := by simpa using KP
    clear h h0 hr hB0 hbs hm hi1 KP
    go_enter Try.func57, Try.ntmps57
    go_wp2_with fail
    rw [hw0.out, HBS.out]
    refine K1.out.mono ?_
    rintro e w5 ⟨rfl, h5⟩
    have y0 := cell_after h5 (by have := DS.out; dsimp only; omega) R0.out
    have y1 := cell_after h5 (by have := DS.out; dsimp only; omega) R1.out
    have z0 := cell_after h5 (by have := DS.out; dsimp only; omega) D0.out
    have z1 := cell_after h5 (by have := DS.out; dsimp only; omega) D1.out
    have f0 := (h5.frozen (p := ⟨bs + 1, 0, none⟩) (by have := DS.out; dsimp only; omega)).trans F0.out
    have f1 := (h5.frozen (p := ⟨bs + 1, 1, none⟩) (by have := DS.out; dsimp only; omega)).trans F1.out
    go_wp2_with fail
    refine (K3.out _ h5).mono ?_
    rintro e w7 ⟨rfl, h7⟩
    have h5b := bel_trans h5 h7
    clear z0 z1 y0 y1 f0 f1
    have y0 := cell_after h5b (by have := DS.out; dsimp only; omega) R0.out
    have y1 := cell_after h5b (by have := DS.out; dsimp only; omega) R1.out
    have z0 := cell_after h5b (by have := DS.out; dsimp only; omega) D0.out
    have z1 := cell_after h5b (by have := DS.out; dsimp only; omega) D1.out
    have f0 := (h5b.frozen (p := ⟨bs + 1, 0, none⟩) (by have := DS.out; dsimp only; omega)).trans F0.out
    have f1 := (h5b.frozen (p := ⟨bs + 1, 1, none⟩) (by have := DS.out; dsimp only; omega)).trans F1.out
    have B5 := bel_trans' HW0.out h5b HW0.out.size
    have hsz := HBS.out
    have sz7 := Nat.lt_of_lt_of_le DS.out h5b.size
    have sz07 := h5b.size
    have z0' := cell_alloc (.cells #[] 3) (show bs < w7.heap.size by omega) z0
    have OE : Hid (OwnI w7.heap.size (w7.alloc (.cells #[] 3)) (.slice (some ⟨w7.heap.size, 0, none⟩) 0 0) []) := Lib.hid (own_emptyS 1 w7 3)
    go_wp2_with (first | (at_builtin; refine app_listI rfl (.tmp 24) (.tmp 26) rfl w7.heap.size _ [] rfl OE.out A n c xs rfl (HI.out _ (by exact (by repeat (first | exact Below.refl _ _ | assumption | refine bel_drew ?_ | refine bel_drewN ?_ _ | refine bel_alloc ?_ _ | refine bel_set ?_ (by first | (dsimp only; omega) | (simp; done) | (simp; omega)) _ | refine bel_trans ?_ (by assumption))))) (by have := HLN.out; simp; omega) (by first | omega | (simp; done) | (simp; omega)) ?_; intro v8 w8 ho8 hb8; obtain ⟨A8, c8, rfl, _⟩ := ho8.ints; rw [List.nil_append] at ho8; replace ho8 := Lib.hid ho8; have sz78 : w7.heap.size + 1 ≤ w8.heap.size := (by have := hb8.size; simpa using this); have q7 := bel_alloc (Below.refl w7.heap.size w7) (.cells #[] 3); have hs7 : bs + 1 < w7.heap.size := (by omega); have Y0 := (hb8.cell (p := ⟨bs + 1, 0, none⟩) hs7).trans (cell_after q7 hs7 y0); have Y1 := (hb8.cell (p := ⟨bs + 1, 1, none⟩) hs7).trans (cell_after q7 hs7 y1); have G0 := (hb8.frozen (p := ⟨bs + 1, 0, none⟩) hs7).trans ((q7.frozen (p := ⟨bs + 1, 0, none⟩) hs7).trans f0); have G1 := (hb8.frozen (p := ⟨bs + 1, 1, none⟩) hs7).trans ((q7.frozen (p := ⟨bs + 1, 1, none⟩) hs7).trans f1)) | (at_builtin; (refine app_listI rfl (.tmp 27) (.tmp 29) rfl w7.heap.size _ xs rfl (ho8.out.keep (by exact (by repeat (first | exact Below.refl _ _ | assumption | refine bel_drew ?_ | refine bel_drewN ?_ _ | refine bel_alloc ?_ _ | refine bel_set ?_ (by first | (dsimp only; omega) | (simp; done) | (simp; omega)) _ | refine bel_trans ?_ (by assumption))))) (some ⟨w8.heap.size, 0, none⟩) 1 1 [i] rfl (src_oneI (by simp [go_sem])) HLN.out.1 (by first | omega | (simp; done) | (simp; omega)) ?_; intro v9 w9 ho9 hb9; obtain ⟨A9, c9, rfl, _⟩ := ho9.ints; replace ho9 := Lib.hid ho9; have B7 : Below w7.heap.size w7 w8 := (bel_trans' q7 hb8 (Nat.le_refl _)); have B78 := bel_trans' h5b B7 h5b.size; have B8 := bel_trans' HW0.out B78 HW0.out.size; have q8 := bel_alloc (Below.refl w8.heap.size w8) (.cells #[.int .i64 i] 3); have q8' : Below w7.heap.size w8 (w8.alloc (.cells #[.int .i64 i] 3)) := (q8.mono (by omega)); have q9 := q8'.trans hb9; have B9 := bel_trans' B8 q9 (by omega); have Y0 := (q9.cell (p := ⟨bs + 1, 0, none⟩) hs7).trans Y0; have Y1 := (q9.cell (p := ⟨bs + 1, 1, none⟩) hs7).trans Y1; have G0 := (q9.frozen (p := ⟨bs + 1, 0, none⟩) hs7).trans G0; have G1 := (q9.frozen (p := ⟨bs + 1, 1, none⟩) hs7).trans G1)))
    have g2 : ∀ v u, ((w9.setCell ⟨bs + 1, 0, none⟩ v).setCell ⟨bs + 1, 1, none⟩ u).cell? ⟨bs + 1, 1, none⟩ = some u := fun v u => World.cell?_setCell_same _ _ _ ((World.cell?_setCell_other _ _ _ _ (by simp)).trans Y1)
    have g3 : ∀ v, (w9.setCell ⟨bs + 1, 0, none⟩ v).cell? ⟨bs + 1, 0, none⟩ = some v := fun v => World.cell?_setCell_same _ _ _ Y0
    refine bodyPost_ret (v := .tuple #[.agg #[.slice A9 (xs ++ [i]).length c9, .int .i64 0], .int .i64 0]) (by simp [results, Try.results57, go_sem, g2, g3]) rfl ?_
    exact ⟨A9, _, c9, by first | rfl | (simp; done), ((ho9.out.keepSet _ _ (by dsimp only; omega)).keepSet _ _ (by dsimp only; omega)).intsV, (by repeat (first | exact Below.refl _ _ | assumption | refine bel_drew ?_ | refine bel_drewN ?_ _ | refine bel_alloc ?_ _ | refine bel_set ?_ (by first | (dsimp only; omega) | (simp; done) | (simp; omega)) _ | refine bel_trans ?_ (by assumption)))⟩
end Go.Proofs.Ytfgfnfjeopjbgaa
