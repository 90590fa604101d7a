/-
  Layer 39 (page): Join of two.
-/
import Derived.Test.YtfgfnfjeopjbgaaPageG
namespace Go.Proofs.Ytfgfnfjeopjbgaa
open Go.RowKit
set_option linter.unusedVariables false
set_option linter.unusedSimpArgs false
attribute [local go_sem] drewN_alloc drewN_setCell

set_option maxRecDepth 100000 in
set_option maxHeartbeats 8000000 in
/-- Join(p, p), the two in block g. -/
theorem page_Join {A : Option Addr} {n : Nat} {xs : List Int} (g c : Nat) (cur : Int) {w : World} (h : IntsAt w A n xs) (hn : n ≤ 1000) (hg : g < w.heap.size)
    (c0 : w.cell? ⟨g, 0, none⟩ = some (.slice A n c)) (c1 : w.cell? ⟨g, 1, none⟩ = some (.int .i64 cur)) (c2 : w.cell? ⟨g, 2, none⟩ = some (.slice A n c)) (c3 : w.cell? ⟨g, 3, none⟩ = some (.int .i64 cur)) :
    Calls Try.prog 63 #[.slice (some ⟨g, 0, none⟩) 2 2] w fun e w' => ∃ v, e = .returned v ∧ OwnI w.heap.size w' v (xs ++ xs) ∧ Below w.heap.size w w' := by
  have HLEN : Hid (xs.length = n) := Lib.hid h.1
  have HI : Hid (∀ W, Below w.heap.size w W → SrcS 1 W A n (cellsI xs)) := Lib.hid (fun W hW => (h.keep hW).srcI)
  have HN := Lib.hid hn
  clear h
  go_enter Try.func63, Try.ntmps63
  go_wp2_with fail
  refine wp_loop_rounds 3 ?_
  rw [rounds_succ]
  go_wp2_with (at_builtin; refine app_listI rfl (.tmp 12) (.tmp 14) rfl w.heap.size _ [] rfl (OwnI.nil _ _) A n c xs rfl (HI.out _ (by exact (by repeat (first | exact Below.refl _ _ | assumption | refine bel_drew ?_ | refine bel_drewN ?_ _ | refine bel_alloc ?_ _ | refine bel_set ?_ (by first | (dsimp only; omega) | (simp; done) | (simp; omega)) _ | refine bel_trans ?_ (by assumption))))) (by have := HN.out; simp; omega) (by first | omega | (simp; done) | (simp; omega)) ?_; intro v1 w1 ho1 hb1; replace ho1 := Lib.hid ho1; have B1 := bel_trans' (show Below w.heap.size w _ from (by repeat (first | exact Below.refl _ _ | assumption | refine bel_drew ?_ | refine bel_drewN ?_ _ | refine bel_alloc ?_ _ | refine bel_set ?_ (by first | (dsimp only; omega) | (simp; done) | (simp; omega)) _ | refine bel_trans ?_ (by assumption)))) hb1 (Nat.le_refl _))
  have e2 := (B1.cell (p := ⟨g, 2, none⟩) hg).trans c2
  have e3 := (B1.cell (p := ⟨g, 3, none⟩) hg).trans c3
  have sz1 := B1.size
  clear hb1
  rw [rounds_succ]
  go_wp2_with (at_builtin; refine app_listI rfl (.tmp 12) (.tmp 14) rfl w.heap.size _ ([] ++ xs) rfl (ho1.out.keep (by exact (by repeat (first | exact Below.refl _ _ | assumption | refine bel_drew ?_ | refine bel_drewN ?_ _ | refine bel_alloc ?_ _ | refine bel_set ?_ (by first | (dsimp only; omega) | (simp; done) | (simp; omega)) _ | refine bel_trans ?_ (by assumption))))) A n c xs rfl (HI.out _ (by exact (by repeat (first | exact Below.refl _ _ | assumption | refine bel_drew ?_ | refine bel_drewN ?_ _ | refine bel_alloc ?_ _ | refine bel_set ?_ (by first | (dsimp only; omega) | (simp; done) | (simp; omega)) _ | refine bel_trans ?_ (by assumption))))) (by have := HN.out; have := HLEN.out; simp; omega) (by first | omega | (simp; done) | (simp; omega)) ?_; intro v2 w2 ho2 hb2; replace ho2 := Lib.hid ho2; have B2 := bel_trans' (show Below w.heap.size w _ from (by repeat (first | exact Below.refl _ _ | assumption | refine bel_drew ?_ | refine bel_drewN ?_ _ | refine bel_alloc ?_ _ | refine bel_set ?_ (by first | (dsimp only; omega) | (simp; done) | (simp; omega)) _ | refine bel_trans ?_ (by assumption)))) hb2 (Nat.le_refl _))
  clear hb2
  rw [rounds_succ]
  go_wp2_with fail
  go_ret
  have o2 := ho2.out
  rw [List.nil_append] at o2
  exact ⟨_, rfl, o2, (by repeat (first | exact Below.refl _ _ | assumption | refine bel_drew ?_ | refine bel_drewN ?_ _ | refine bel_alloc ?_ _ | refine bel_set ?_ (by first | (dsimp only; omega) | (simp; done) | (simp; omega)) _ | refine bel_trans ?_ (by assumption)))⟩
end Go.Proofs.Ytfgfnfjeopjbgaa
