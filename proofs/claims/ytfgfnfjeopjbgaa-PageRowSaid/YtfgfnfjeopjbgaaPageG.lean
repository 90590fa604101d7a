/-
  Layer 39 (page): Add.
-/
import Derived.Test.YtfgfnfjeopjbgaaPageF
namespace Go.Proofs.Ytfgfnfjeopjbgaa
open Go.RowKit
set_option linter.unusedVariables false
set_option linter.unusedSimpArgs false
attribute [local go_sem] drewN_alloc drewN_setCell

theorem src_oneI {w : World} {g : Nat} {x : Int} (h0 : w.cell? ⟨g, 0, none⟩ = some (.int .i64 x)) : SrcS 1 w (some ⟨g, 0, none⟩) 1 (cellsI [x]) := by
  refine ⟨by simp [cellsI], fun e => by simp at e, fun ad e j u hu => ?_⟩
  obtain rfl : (⟨g, 0, none⟩ : Addr) = ad := by simpa using e
  obtain ⟨hj, rfl⟩ := cellsI_get hu
  obtain rfl : j = 0 := by simpa using hj
  rw [addr_addS]
  exact h0
/-- What Add hands back. -/
def GivesAdd (w : World) (r : List Int × Int) (e : Ending) (w' : World) : Prop :=
  ∃ A n c, e = .returned (.tuple #[.agg #[.slice A n c, .int .i64 0], .int .i64 r.2]) ∧ IntsAt w' A n r.1 ∧ Below w.heap.size w w'

set_option maxRecDepth 100000 in
set_option maxHeartbeats 8000000 in
theorem page_Add {A : Option Addr} {n : Nat} {xs : List Int} (c : Nat) (cur i : Int) {w : World} (h : IntsAt w A n xs) (hn : n ≤ 100000) :
    Calls Try.prog 48 #[.agg #[.slice A n c, .int .i64 cur], .int .i64 i] w (GivesAdd w (PG.add xs cur i)) := by
  obtain ⟨w0, hw0⟩ : ∃ w0, (w.alloc (.cells #[.slice A n c, .int .i64 cur] 53)).alloc (.cells #[.slice none 0 0, .int .i64 0] 53) = w0 := ⟨_, rfl⟩
  obtain ⟨bs, hbs⟩ : ∃ bs, w.heap.size = bs := ⟨_, rfl⟩
  have hB0 : Below w.heap.size w w0 := by rw [← hw0]; exact (by repeat (first | exact Below.refl _ _ | assumption | refine bel_drew ?_ | refine bel_drewN ?_ _ | refine bel_alloc ?_ _ | refine bel_set ?_ (by first | (dsimp only; omega) | (simp; done) | (simp; omega)) _ | refine bel_trans ?_ (by assumption)))
  have D0 : Hid (w0.cell? ⟨bs, 0, none⟩ = some (.slice A n c)) := Lib.hid (by rw [← hw0, ← hbs]; simp [go_sem])
  have D1 : Hid (w0.cell? ⟨bs, 1, none⟩ = some (.int .i64 cur)) := Lib.hid (by rw [← hw0, ← hbs]; simp [go_sem])
  have R0 : Hid (w0.cell? ⟨bs + 1, 0, none⟩ = some (.slice none 0 0)) := Lib.hid (by rw [← hw0, ← hbs]; simp [go_sem])
  have R1 : Hid (w0.cell? ⟨bs + 1, 1, none⟩ = some (.int .i64 0)) := Lib.hid (by rw [← hw0, ← hbs]; simp [go_sem])
  have F0 : Hid (w0.frozen? ⟨bs + 1, 0, none⟩ = false) := Lib.hid (by rw [← hw0, ← hbs]; simp [go_sem])
  have F1 : Hid (w0.frozen? ⟨bs + 1, 1, none⟩ = false) := Lib.hid (by rw [← hw0, ← hbs]; simp [go_sem])
  have DS : Hid (bs + 1 < w0.heap.size) := Lib.hid (by rw [← hw0, ← hbs]; simp)
  have h0 := h.keep hB0
  have K1 := page_Right c cur h0 hn
  have K2 := fun W => page_is i W
  have HLN : Hid (xs.length + 1 ≤ 1048576) := Lib.hid (by have := h.1; omega)
  have K3 : Hid (∀ W, Below w0.heap.size w0 W → Calls Try.prog 87 #[.slice A n c, .int .i64 i] W fun e w' => e = .returned (.bool (decide (i ∈ xs))) ∧ Below W.heap.size W w') := Lib.hid (fun W hW => slices_ContainsI c i (h0.keep hW))
  have K4 : Hid (∀ W, Below w0.heap.size w0 W → Calls Try.prog 85 #[.agg #[.slice A n c, .int .i64 cur]] W (GivesP W xs cur)) := Lib.hid (fun W hW => page_own c cur (h0.keep hW) hn)
  replace hw0 := Lib.hid hw0
  have HBS := Lib.hid hbs
  have HW0 := Lib.hid hB0
  have HL : PG.add xs cur i = (if PG.right xs cur = false ∨ PG.fit i = false then ([], 2) else if i ∈ xs then ([], 19) else (xs ++ [i], 0)) := rfl
  generalize PG.add xs cur i = LY at *
  rcases hr : PG.right xs cur with _ | _
  · rw [hr] at K1
    rw [if_pos (Or.inl hr)] at HL
    subst HL
    replace K1 := Lib.hid K1
    clear h h0 hr hB0 hbs K2 K3 K4
    go_enter Try.func48, Try.ntmps48
    go_wp2_with fail
    rw [hw0.out, HBS.out]
    refine K1.out.mono ?_
    rintro e w5 ⟨rfl, h5⟩
    have y0 := cell_after h5 (by have := DS.out; dsimp only; omega) R0.out
    have y1 := cell_after h5 (by have := DS.out; dsimp only; omega) R1.out
    have z0 := cell_after h5 (by have := DS.out; dsimp only; omega) D0.out
    have z1 := cell_after h5 (by have := DS.out; dsimp only; omega) D1.out
    have f0 := (h5.frozen (p := ⟨bs + 1, 0, none⟩) (by have := DS.out; dsimp only; omega)).trans F0.out
    have f1 := (h5.frozen (p := ⟨bs + 1, 1, none⟩) (by have := DS.out; dsimp only; omega)).trans F1.out
    have B5 := bel_trans' HW0.out h5 HW0.out.size
    have hsz := HBS.out
    go_wp2_with fail
    have g2 : ∀ v u, ((w5.setCell ⟨bs + 1, 0, none⟩ v).setCell ⟨bs + 1, 1, none⟩ u).cell? ⟨bs + 1, 1, none⟩ = some u := fun v u => World.cell?_setCell_same _ _ _ ((World.cell?_setCell_other _ _ _ _ (by simp)).trans y1)
    have g3 : ∀ v, (w5.setCell ⟨bs + 1, 0, none⟩ v).cell? ⟨bs + 1, 0, none⟩ = some v := fun v => World.cell?_setCell_same _ _ _ y0
    refine bodyPost_ret (v := .tuple #[.agg #[.slice none 0 0, .int .i64 0], .int .i64 2]) (by simp [results, Try.results48, go_sem, g2, g3]) rfl ?_
    exact ⟨none, 0, 0, rfl, IntsAt.nil, (by repeat (first | exact Below.refl _ _ | assumption | refine bel_drew ?_ | refine bel_drewN ?_ _ | refine bel_alloc ?_ _ | refine bel_set ?_ (by first | (dsimp only; omega) | (simp; done) | (simp; omega)) _ | refine bel_trans ?_ (by assumption)))⟩
  rw [hr] at K1
  rcases hf : PG.fit i with _ | _
  · rw [if_pos (Or.inr hf)] at HL
    subst HL
    rw [hf] at K2
    replace K1 := Lib.hid K1
    replace K2 := Lib.hid K2
    clear h h0 hr hB0 hbs K3 K4 hf
    go_enter Try.func48, Try.ntmps48
    go_wp2_with fail
    rw [hw0.out, HBS.out]
    refine K1.out.mono ?_
    rintro e w5 ⟨rfl, h5⟩
    have y0 := cell_after h5 (by have := DS.out; dsimp only; omega) R0.out
    have y1 := cell_after h5 (by have := DS.out; dsimp only; omega) R1.out
    have z0 := cell_after h5 (by have := DS.out; dsimp only; omega) D0.out
    have z1 := cell_after h5 (by have := DS.out; dsimp only; omega) D1.out
    have f0 := (h5.frozen (p := ⟨bs + 1, 0, none⟩) (by have := DS.out; dsimp only; omega)).trans F0.out
    have f1 := (h5.frozen (p := ⟨bs + 1, 1, none⟩) (by have := DS.out; dsimp only; omega)).trans F1.out
    have B5 := bel_trans' HW0.out h5 HW0.out.size
    have hsz := HBS.out
    go_wp2_with fail
    refine (K2.out _).mono ?_
    rintro e w6 ⟨rfl, rfl⟩
    go_wp2_with fail
    have g2 : ∀ v u, ((w5.setCell ⟨bs + 1, 0, none⟩ v).setCell ⟨bs + 1, 1, none⟩ u).cell? ⟨bs + 1, 1, none⟩ = some u := fun v u => World.cell?_setCell_same _ _ _ ((World.cell?_setCell_other _ _ _ _ (by simp)).trans y1)
    have g3 : ∀ v, (w5.setCell ⟨bs + 1, 0, none⟩ v).cell? ⟨bs + 1, 0, none⟩ = some v := fun v => World.cell?_setCell_same _ _ _ y0
    refine bodyPost_ret (v := .tuple #[.agg #[.slice none 0 0, .int .i64 0], .int .i64 2]) (by simp [results, Try.results48, go_sem, g2, g3]) rfl ?_
    exact ⟨none, 0, 0, rfl, IntsAt.nil, (by repeat (first | exact Below.refl _ _ | assumption | refine bel_drew ?_ | refine bel_drewN ?_ _ | refine bel_alloc ?_ _ | refine bel_set ?_ (by first | (dsimp only; omega) | (simp; done) | (simp; omega)) _ | refine bel_trans ?_ (by assumption)))⟩
  rw [hf] at K2
  rw [if_neg (by rw [hr, hf]; simp)] at HL
  replace K1 := Lib.hid K1
  replace K2 := Lib.hid K2
  by_cases hm : i ∈ xs
  · rw [if_pos hm] at HL
    subst HL
    rw [decide_eq_true hm] at K3
    clear h h0 hr hB0 hbs K4 hf hm
    go_enter Try.func48, Try.ntmps48
    go_wp2_with fail
    rw [hw0.out, HBS.out]
    refine K1.out.mono ?_
    rintro e w5 ⟨rfl, h5⟩
    have y0 := cell_after h5 (by have := DS.out; dsimp only; omega) R0.out
    have y1 := cell_after h5 (by have := DS.out; dsimp only; omega) R1.out
    have z0 := cell_after h5 (by have := DS.out; dsimp only; omega) D0.out
    have z1 := cell_after h5 (by have := DS.out; dsimp only; omega) D1.out
    have f0 := (h5.frozen (p := ⟨bs + 1, 0, none⟩) (by have := DS.out; dsimp only; omega)).trans F0.out
    have f1 := (h5.frozen (p := ⟨bs + 1, 1, none⟩) (by have := DS.out; dsimp only; omega)).trans F1.out
    go_wp2_with fail
    refine (K2.out _).mono ?_
    rintro e w6 ⟨rfl, rfl⟩
    go_wp2_with fail
    refine (K3.out _ h5).mono ?_
    rintro e w7 ⟨rfl, h7⟩
    have h5b := bel_trans h5 h7
    clear z0 z1 y0 y1 f0 f1
    have y0 := cell_after h5b (by have := DS.out; dsimp only; omega) R0.out
    have y1 := cell_after h5b (by have := DS.out; dsimp only; omega) R1.out
    have z0 := cell_after h5b (by have := DS.out; dsimp only; omega) D0.out
    have z1 := cell_after h5b (by have := DS.out; dsimp only; omega) D1.out
    have f0 := (h5b.frozen (p := ⟨bs + 1, 0, none⟩) (by have := DS.out; dsimp only; omega)).trans F0.out
    have f1 := (h5b.frozen (p := ⟨bs + 1, 1, none⟩) (by have := DS.out; dsimp only; omega)).trans F1.out
    have B5 := bel_trans' HW0.out h5b HW0.out.size
    have hsz := HBS.out
    go_wp2_with fail
    have g2 : ∀ v u, ((w7.setCell ⟨bs + 1, 0, none⟩ v).setCell ⟨bs + 1, 1, none⟩ u).cell? ⟨bs + 1, 1, none⟩ = some u := fun v u => World.cell?_setCell_same _ _ _ ((World.cell?_setCell_other _ _ _ _ (by simp)).trans y1)
    have g3 : ∀ v, (w7.setCell ⟨bs + 1, 0, none⟩ v).cell? ⟨bs + 1, 0, none⟩ = some v := fun v => World.cell?_setCell_same _ _ _ y0
    refine bodyPost_ret (v := .tuple #[.agg #[.slice none 0 0, .int .i64 0], .int .i64 19]) (by simp [results, Try.results48, go_sem, g2, g3]) rfl ?_
    exact ⟨none, 0, 0, rfl, IntsAt.nil, (by repeat (first | exact Below.refl _ _ | assumption | refine bel_drew ?_ | refine bel_drewN ?_ _ | refine bel_alloc ?_ _ | refine bel_set ?_ (by first | (dsimp only; omega) | (simp; done) | (simp; omega)) _ | refine bel_trans ?_ (by assumption)))⟩
  · rw [if_neg hm] at HL
    subst HL
    rw [decide_eq_false hm] at K3
    clear h h0 hr hB0 hbs hf hm
    go_enter Try.func48, Try.ntmps48
    go_wp2_with fail
    rw [hw0.out, HBS.out]
    refine K1.out.mono ?_
    rintro e w5 ⟨rfl, h5⟩
    have y0 := cell_after h5 (by have := DS.out; dsimp only; omega) R0.out
    have y1 := cell_after h5 (by have := DS.out; dsimp only; omega) R1.out
    have z0 := cell_after h5 (by have := DS.out; dsimp only; omega) D0.out
    have z1 := cell_after h5 (by have := DS.out; dsimp only; omega) D1.out
    have f0 := (h5.frozen (p := ⟨bs + 1, 0, none⟩) (by have := DS.out; dsimp only; omega)).trans F0.out
    have f1 := (h5.frozen (p := ⟨bs + 1, 1, none⟩) (by have := DS.out; dsimp only; omega)).trans F1.out
    go_wp2_with fail
    refine (K2.out _).mono ?_
    rintro e w6 ⟨rfl, rfl⟩
    go_wp2_with fail
    refine (K3.out _ h5).mono ?_
    rintro e w7 ⟨rfl, h7⟩
    have h5b := bel_trans h5 h7
    clear z0 z1 y0 y1 f0 f1
    have y0 := cell_after h5b (by have := DS.out; dsimp only; omega) R0.out
    have y1 := cell_after h5b (by have := DS.out; dsimp only; omega) R1.out
    have z0 := cell_after h5b (by have := DS.out; dsimp only; omega) D0.out
    have z1 := cell_after h5b (by have := DS.out; dsimp only; omega) D1.out
    have f0 := (h5b.frozen (p := ⟨bs + 1, 0, none⟩) (by have := DS.out; dsimp only; omega)).trans F0.out
    have f1 := (h5b.frozen (p := ⟨bs + 1, 1, none⟩) (by have := DS.out; dsimp only; omega)).trans F1.out
    go_wp2_with fail
    refine (K4.out _ h5b).mono ?_
    rintro e w8 ⟨v8, rfl, ho8, h8⟩
    obtain ⟨A8, c8, rfl, i8, hlc, hcm⟩ := ho8.ints
    have h8b := bel_trans h5b h8
    clear z0 z1 y0 y1 f0 f1
    have y0 := cell_after h8b (by have := DS.out; dsimp only; omega) R0.out
    have y1 := cell_after h8b (by have := DS.out; dsimp only; omega) R1.out
    have z0 := cell_after h8b (by have := DS.out; dsimp only; omega) D0.out
    have z1 := cell_after h8b (by have := DS.out; dsimp only; omega) D1.out
    have f0 := (h8b.frozen (p := ⟨bs + 1, 0, none⟩) (by have := DS.out; dsimp only; omega)).trans F0.out
    have f1 := (h8b.frozen (p := ⟨bs + 1, 1, none⟩) (by have := DS.out; dsimp only; omega)).trans F1.out
    have B5 := bel_trans' HW0.out h8b HW0.out.size
    have hsz := HBS.out
    have O8 := Lib.hid ho8
    have sz7 := Nat.lt_of_lt_of_le DS.out h5b.size
    have sz78 := h8.size
    clear i8 ho8
    go_wp2_with (at_builtin; go_loud (refine app_listI rfl (.tmp 26) (.tmp 28) rfl w7.heap.size _ xs rfl (O8.out.keep (by exact (by repeat (first | exact Below.refl _ _ | assumption | refine bel_drew ?_ | refine bel_drewN ?_ _ | refine bel_alloc ?_ _ | refine bel_set ?_ (by first | (dsimp only; omega) | (simp; done) | (simp; omega)) _ | refine bel_trans ?_ (by assumption))))) (some ⟨w8.heap.size + 1, 0, none⟩) 1 1 [i] rfl (src_oneI (by simp [go_sem])) HLN.out (by first | omega | (dsimp only; omega) | (simp; omega) | (dsimp only; simp; omega)) ?_; intro v9 w9 ho9 hb9; obtain ⟨A9, c9, rfl, _⟩ := ho9.ints; replace ho9 := Lib.hid ho9; have B9 := bel_trans' (show Below w.heap.size w _ from (by repeat (first | exact Below.refl _ _ | assumption | refine bel_drew ?_ | refine bel_drewN ?_ _ | refine bel_alloc ?_ _ | refine bel_set ?_ (by first | (dsimp only; omega) | (simp; done) | (simp; omega)) _ | refine bel_trans ?_ (by assumption)))) hb9 (by omega); have q8 := bel_alloc (bel_alloc (Below.refl w8.heap.size w8) (.cells #[.slice A8 xs.length c8, .int .i64 cur] 53)) (.cells #[.int .i64 i] 3); have hs8 : bs + 1 < w8.heap.size := (by omega); have hs7 : bs + 1 < w7.heap.size := (by omega); have Y0 := (hb9.cell (p := ⟨bs + 1, 0, none⟩) hs7).trans (cell_after q8 hs8 y0); have Y1 := (hb9.cell (p := ⟨bs + 1, 1, none⟩) hs7).trans (cell_after q8 hs8 y1); have G0 := (hb9.frozen (p := ⟨bs + 1, 0, none⟩) hs7).trans ((q8.frozen (p := ⟨bs + 1, 0, none⟩) hs8).trans f0); have G1 := (hb9.frozen (p := ⟨bs + 1, 1, none⟩) hs7).trans ((q8.frozen (p := ⟨bs + 1, 1, none⟩) hs8).trans f1)))
    have g2 : ∀ v u, ((w9.setCell ⟨bs + 1, 0, none⟩ v).setCell ⟨bs + 1, 1, none⟩ u).cell? ⟨bs + 1, 1, none⟩ = some u := fun v u => World.cell?_setCell_same _ _ _ ((World.cell?_setCell_other _ _ _ _ (by simp)).trans Y1)
    have g3 : ∀ v, (w9.setCell ⟨bs + 1, 0, none⟩ v).cell? ⟨bs + 1, 0, none⟩ = some v := fun v => World.cell?_setCell_same _ _ _ Y0
    refine bodyPost_ret (v := .tuple #[.agg #[.slice A9 (xs ++ [i]).length c9, .int .i64 0], .int .i64 0]) (by simp [results, Try.results48, go_sem, g2, g3]) rfl ?_
    exact ⟨A9, _, c9, by first | rfl | (simp; done), ((ho9.out.keepSet _ _ (by dsimp only; omega)).keepSet _ _ (by dsimp only; omega)).intsV, (by repeat (first | exact Below.refl _ _ | assumption | refine bel_drew ?_ | refine bel_drewN ?_ _ | refine bel_alloc ?_ _ | refine bel_set ?_ (by first | (dsimp only; omega) | (simp; done) | (simp; omega)) _ | refine bel_trans ?_ (by assumption)))⟩
end Go.Proofs.Ytfgfnfjeopjbgaa
