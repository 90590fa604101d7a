/-
  Layer 39 (page): own; Last, and the reference's.
-/
import Derived.Test.YtfgfnfjeopjbgaaPageC
namespace Go.Proofs.Ytfgfnfjeopjbgaa
open Go.RowKit
set_option linter.unusedVariables false
set_option linter.unusedSimpArgs false
attribute [local go_sem] drewN_alloc drewN_setCell

theorem heap_lastAt (w : World) (o : Obj) (k : Nat) (hk : w.heap.size = k) : (w.alloc o).heap[k]? = some o := by subst hk; exact (MapKept.heap_alloc w o).1
theorem copy_ints {w : World} {A : Option Addr} {g n c : Nat} {xs : List Int} (Z : Array Value) (hg : w.heap[g]? = some (.cells Z 3 (0, 0))) (hZ : Z.size = n) (h : IntsAt w A n xs) (ty : TypeId) :
    ∃ w', (Builtin.copy_ #[51, 51] ty #[.slice (some ⟨g, 0, none⟩) n n, .slice A n c]).run Try.prog w = .ok (goInt n) w' ∧ w'.heap[g]? = some (.cells (cellsI xs).toArray 3 (0, 0)) ∧ Below g w w' := by
  have hl : (cellsI xs).length = n := by simp [cellsI, h.1]
  by_cases h0 : n = 0
  · subst h0
    obtain rfl := List.eq_nil_of_length_eq_zero h.1
    obtain rfl := Array.eq_empty_of_size_eq_zero hZ
    exact ⟨w, run_copy_none (P := Try.prog) w _ _ ty 3 _ _ 0 0 0 c Try.underlying51 sizeInt rfl, hg, Below.refl _ _⟩
  · obtain ⟨ad, rfl, hc⟩ := h.cells (by omega)
    have hr := run_copy_row (P := Try.prog) w 51 51 ty 3 g 0 n n ad n c Z 3 (cellsI xs) Try.underlying51 sizeInt hg (by rw [hl]; exact (Nat.min_self n).symm) hc (by omega) (cellsI_one' xs)
    rw [hl] at hr
    refine ⟨_, hr, ?_, below_setRow (Below.refl _ _) (Nat.le_refl _) _⟩
    rw [setRow_heap w g _ _ 3 _ hg]
    simp [← hZ]
/-- Pages of the call's own. -/
def GivesP (w : World) (l : List Int) (cur : Int) (e : Ending) (w' : World) : Prop := ∃ v, e = .returned (.agg #[v, .int .i64 cur]) ∧ OwnI w.heap.size w' v l ∧ Below w.heap.size w w'

set_option maxRecDepth 100000 in
set_option maxHeartbeats 2000000 in
theorem page_own {A : Option Addr} {n : Nat} {xs : List Int} (c : Nat) (cur : Int) {w : World} (h : IntsAt w A n xs) (hn : n ≤ 100000) :
    Calls Try.prog 85 #[.agg #[.slice A n c, .int .i64 cur]] w (GivesP w xs cur) := by
  have hinfo : (Try.prog.info? 3).map (fun i => (i.zero, i.size, i.bytes)) = some (some (.int .i64 0), 1, 8) := by kernel_rfl
  have hmk := run_make_row' (P := Try.prog) 51 3 (.int .i64 0) 8 Try.underlying51 hinfo rfl .i64 .i64 n (by omega) (by omega)
  obtain ⟨Z, hZ⟩ : ∃ Z, madeCells #[Value.int .i64 0] n = Z := ⟨_, rfl⟩
  rw [hZ] at hmk
  have hZ' : Z.size = n := by rw [← hZ]; simp [madeCells]
  obtain ⟨w2, hcp, hg2, hb2⟩ := copy_ints (w := ((w.alloc (.cells #[.slice A n c, .int .i64 cur] 53)).alloc (.cells #[.slice none 0 0, .int .i64 0] 53)).alloc (.cells Z 3)) (g := w.heap.size + 1 + 1) (c := c) Z (heap_lastAt _ _ _ (by simp)) hZ' (h.keep (by exact (by repeat (first | exact Below.refl _ _ | assumption | refine bel_drew ?_ | refine bel_drewN ?_ _ | refine bel_alloc ?_ _ | refine bel_set ?_ (by first | (dsimp only; omega) | (simp; done) | (simp; omega)) _ | refine bel_trans ?_ (by assumption))))) 3
  have HX := Lib.hid h.1
  replace hg2 := Lib.hid hg2
  have a1 : w2.cell? ⟨w.heap.size, 1, none⟩ = some (.int .i64 cur) := (hb2.cell (by dsimp only; omega)).trans (by simp [go_sem])
  have a2 : w2.cell? ⟨w.heap.size + 1, 0, none⟩ = some (.slice none 0 0) := (hb2.cell (by dsimp only; omega)).trans (by simp [go_sem])
  have a3 : w2.cell? ⟨w.heap.size + 1, 1, none⟩ = some (.int .i64 0) := (hb2.cell (by dsimp only; omega)).trans (by simp [go_sem])
  have f2 : w2.frozen? ⟨w.heap.size + 1, 0, none⟩ = false := (hb2.frozen (by dsimp only; omega)).trans (by simp [go_sem])
  have f3 : w2.frozen? ⟨w.heap.size + 1, 1, none⟩ = false := (hb2.frozen (by dsimp only; omega)).trans (by simp [go_sem])
  have B2 := bel_trans' (show Below w.heap.size w _ from (by repeat (first | exact Below.refl _ _ | assumption | refine bel_drew ?_ | refine bel_drewN ?_ _ | refine bel_alloc ?_ _ | refine bel_set ?_ (by first | (dsimp only; omega) | (simp; done) | (simp; omega)) _ | refine bel_trans ?_ (by assumption)))) hb2 (by omega)
  clear hinfo h hZ hZ'
  go_enter Try.func85, Try.ntmps85
  go_wp2
  have g2 : ∀ v u, ((w2.setCell ⟨w.heap.size + 1, 0, none⟩ v).setCell ⟨w.heap.size + 1, 1, none⟩ u).cell? ⟨w.heap.size + 1, 1, none⟩ = some u := fun v u => World.cell?_setCell_same _ _ _ ((World.cell?_setCell_other _ _ _ _ (by simp)).trans a3)
  have g3 : ∀ v, (w2.setCell ⟨w.heap.size + 1, 0, none⟩ v).cell? ⟨w.heap.size + 1, 0, none⟩ = some v := fun v => World.cell?_setCell_same _ _ _ a2
  refine bodyPost_ret (v := .agg #[.slice (some ⟨w.heap.size + 1 + 1, 0, none⟩) n n, .int .i64 cur]) (by simp [results, Try.results85, go_sem, g2, g3]) rfl ⟨_, rfl, OwnI.of_row (g := w.heap.size + 1 + 1) (by omega) ?_ HX.out.symm hn, ?_⟩
  · rw [Below.heap_setCell _ _ _ _ (by dsimp only; omega), Below.heap_setCell _ _ _ _ (by dsimp only; omega)]; exact hg2.out
  · exact (by repeat (first | exact Below.refl _ _ | assumption | refine bel_drew ?_ | refine bel_drewN ?_ _ | refine bel_alloc ?_ _ | refine bel_set ?_ (by first | (dsimp only; omega) | (simp; done) | (simp; omega)) _ | refine bel_trans ?_ (by assumption)))
end Go.Proofs.Ytfgfnfjeopjbgaa
