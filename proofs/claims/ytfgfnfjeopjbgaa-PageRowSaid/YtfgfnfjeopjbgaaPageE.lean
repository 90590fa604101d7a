/-
  Layer 39 (page): Last, and the reference's.
-/
import Derived.Test.YtfgfnfjeopjbgaaPageD
namespace Go.Proofs.Ytfgfnfjeopjbgaa
open Go.RowKit
set_option linter.unusedVariables false
set_option linter.unusedSimpArgs false
attribute [local go_sem] drewN_alloc drewN_setCell

set_option maxRecDepth 100000 in
set_option maxHeartbeats 4000000 in
theorem page_Last {A : Option Addr} {n : Nat} {xs : List Int} (c : Nat) (cur : Int) {w : World} (h : IntsAt w A n xs) (hn : n ≤ 100000) :
    Calls Try.prog 59 #[.agg #[.slice A n c, .int .i64 cur]] w fun e w' => e = .returned (.int .i64 (PG.last xs cur)) ∧ Below w.heap.size w w' := by
  have K := page_Right c cur (h.keep (bel_alloc (Below.refl _ _) (.cells #[.slice A n c, .int .i64 cur] 53))) hn
  rcases hr : PG.right xs cur with _ | _
  · rw [hr] at K
    have e : PG.last xs cur = -1 := by unfold PG.last; rw [hr]; rfl
    rw [e]
    replace K := Lib.hid K
    clear h hr e
    go_enter Try.func59, Try.ntmps59
    go_wp2_with fail
    refine K.out.mono ?_
    rintro e w5 ⟨rfl, h5⟩
    go_wp2_with fail
    go_ret
    exact ⟨rfl, (by repeat (first | exact Below.refl _ _ | assumption | refine bel_drew ?_ | refine bel_drewN ?_ _ | refine bel_alloc ?_ _ | refine bel_set ?_ (by first | (dsimp only; omega) | (simp; done) | (simp; omega)) _ | refine bel_trans ?_ (by assumption)))⟩
  · rw [hr] at K
    replace K := Lib.hid K
    by_cases h0 : n = 0
    · subst h0
      have e : PG.last xs cur = -1 := by unfold PG.last; rw [hr, List.eq_nil_of_length_eq_zero h.1]; rfl
      rw [e]
      clear h hr e
      go_enter Try.func59, Try.ntmps59
      go_wp2_with fail
      refine K.out.mono ?_
      rintro e w5 ⟨rfl, h5⟩
      have z5 : w.heap.size < w5.heap.size := by have := h5.size; simp at this; omega
      have q0 := cell_after (a := ⟨w.heap.size, 0, none⟩) (v := .slice A 0 c) h5 (by simp) (by simp [go_sem])
      go_wp2_with fail
      go_ret
      exact ⟨rfl, (by repeat (first | exact Below.refl _ _ | assumption | refine bel_drew ?_ | refine bel_drewN ?_ _ | refine bel_alloc ?_ _ | refine bel_set ?_ (by first | (dsimp only; omega) | (simp; done) | (simp; omega)) _ | refine bel_trans ?_ (by assumption)))⟩
    · obtain ⟨m, rfl⟩ : ∃ m, n = m + 1 := ⟨n - 1, by omega⟩
      obtain ⟨b, off, rfl, hb, hc⟩ := h.2.2 (by omega)
      have e : PG.last xs cur = xs.getD m 0 := by
        unfold PG.last
        have hx : xs ≠ [] := by rintro rfl; have := h.1; simp at this
        rw [hr, decide_eq_true hx, h.1]; rfl
      rw [e]
      have x0 := hc m (by omega)
      have hm := h.2.1
      obtain ⟨y, hy⟩ : ∃ y, xs.getD m 0 = y := ⟨_, rfl⟩
      rw [hy] at x0 ⊢
      have j0 : ((m : Int) + 1 == 0) = false := by simp; omega
      have j1 : IntKind.i64.wrap (((m : Int) + 1) - 1) = m := by rw [IntKind.wrap_i64]; omega
      have j2 : (m : Int) < (m : Int) + 1 := by omega
      clear h hr e hc hy
      go_enter Try.func59, Try.ntmps59
      go_wp2_with fail
      refine K.out.mono ?_
      rintro e w5 ⟨rfl, h5⟩
      have q0 := cell_after (a := ⟨w.heap.size, 0, none⟩) (v := .slice (some ⟨b, off, none⟩) (m + 1) c) h5 (by simp) (by simp [go_sem])
      have x5 := cell_after (a := ⟨b, off + m, none⟩) (v := .int .i64 y) h5 (by simp; omega) (cell_alloc _ hb x0)
      go_wp2_with fail
      go_ret
      exact ⟨rfl, (by repeat (first | exact Below.refl _ _ | assumption | refine bel_drew ?_ | refine bel_drewN ?_ _ | refine bel_alloc ?_ _ | refine bel_set ?_ (by first | (dsimp only; omega) | (simp; done) | (simp; omega)) _ | refine bel_trans ?_ (by assumption)))⟩

set_option maxRecDepth 100000 in
set_option maxHeartbeats 4000000 in
theorem ref39_Last {A : Option Addr} {n : Nat} {xs : List Int} (c : Nat) (cur : Int) {w : World} (h : IntsAt w A n xs) :
    Calls Try.prog 60 #[.agg #[.slice A n c, .int .i64 cur]] w fun e w' => e = .returned (.int .i64 (PG.last xs cur)) ∧ Below w.heap.size w w' := by
  have K := ref39_Right c cur (h.keep (bel_alloc (Below.refl _ _) (.cells #[.slice A n c, .int .i64 cur] 62)))
  rcases hr : PG.right xs cur with _ | _
  · rw [hr] at K
    have e : PG.last xs cur = -1 := by unfold PG.last; rw [hr]; rfl
    rw [e]
    replace K := Lib.hid K
    clear h hr e
    go_enter Try.func60, Try.ntmps60
    go_wp2_with fail
    refine K.out.mono ?_
    rintro e w5 ⟨rfl, h5⟩
    go_wp2_with fail
    go_ret
    exact ⟨rfl, (by repeat (first | exact Below.refl _ _ | assumption | refine bel_drew ?_ | refine bel_drewN ?_ _ | refine bel_alloc ?_ _ | refine bel_set ?_ (by first | (dsimp only; omega) | (simp; done) | (simp; omega)) _ | refine bel_trans ?_ (by assumption)))⟩
  · rw [hr] at K
    replace K := Lib.hid K
    by_cases h0 : n = 0
    · subst h0
      have e : PG.last xs cur = -1 := by unfold PG.last; rw [hr, List.eq_nil_of_length_eq_zero h.1]; rfl
      rw [e]
      clear h hr e
      go_enter Try.func60, Try.ntmps60
      go_wp2_with fail
      refine K.out.mono ?_
      rintro e w5 ⟨rfl, h5⟩
      have z5 : w.heap.size < w5.heap.size := by have := h5.size; simp at this; omega
      have q0 := cell_after (a := ⟨w.heap.size, 0, none⟩) (v := .slice A 0 c) h5 (by simp) (by simp [go_sem])
      go_wp2_with fail
      go_ret
      exact ⟨rfl, (by repeat (first | exact Below.refl _ _ | assumption | refine bel_drew ?_ | refine bel_drewN ?_ _ | refine bel_alloc ?_ _ | refine bel_set ?_ (by first | (dsimp only; omega) | (simp; done) | (simp; omega)) _ | refine bel_trans ?_ (by assumption)))⟩
    · obtain ⟨m, rfl⟩ : ∃ m, n = m + 1 := ⟨n - 1, by omega⟩
      obtain ⟨b, off, rfl, hb, hc⟩ := h.2.2 (by omega)
      have e : PG.last xs cur = xs.getD m 0 := by
        unfold PG.last
        have hx : xs ≠ [] := by rintro rfl; have := h.1; simp at this
        rw [hr, decide_eq_true hx, h.1]; rfl
      rw [e]
      have x0 := hc m (by omega)
      have hm := h.2.1
      obtain ⟨y, hy⟩ : ∃ y, xs.getD m 0 = y := ⟨_, rfl⟩
      rw [hy] at x0 ⊢
      have j0 : ((m : Int) + 1 == 0) = false := by simp; omega
      have j1 : IntKind.i64.wrap (((m : Int) + 1) - 1) = m := by rw [IntKind.wrap_i64]; omega
      have j2 : (m : Int) < (m : Int) + 1 := by omega
      clear h hr e hc hy
      go_enter Try.func60, Try.ntmps60
      go_wp2_with fail
      refine K.out.mono ?_
      rintro e w5 ⟨rfl, h5⟩
      have q0 := cell_after (a := ⟨w.heap.size, 0, none⟩) (v := .slice (some ⟨b, off, none⟩) (m + 1) c) h5 (by simp) (by simp [go_sem])
      have x5 := cell_after (a := ⟨b, off + m, none⟩) (v := .int .i64 y) h5 (by simp; omega) (cell_alloc _ hb x0)
      go_wp2_with fail
      go_ret
      exact ⟨rfl, (by repeat (first | exact Below.refl _ _ | assumption | refine bel_drew ?_ | refine bel_drewN ?_ _ | refine bel_alloc ?_ _ | refine bel_set ?_ (by first | (dsimp only; omega) | (simp; done) | (simp; omega)) _ | refine bel_trans ?_ (by assumption)))⟩
end Go.Proofs.Ytfgfnfjeopjbgaa
