/-
  Layer 47 (bound): empty, first, and Ticket's closure.
-/
import Derived.Test.YtfgfnfjeopjbgaaBoundA
import Derived.Deep.RegionHeld3
namespace Go.Proofs.Ytfgfnfjeopjbgaa
open Go.RowKit
set_option linter.unusedVariables false
attribute [local go_sem] drewN_alloc drewN_setCell

theorem drain_Last (a b : Int) (w : World) (ha : -9223372036854775808 ≤ a ∧ a ≤ 9223372036854775807) (hb : -9223372036854775808 ≤ b ∧ b ≤ 9223372036854775807) :
    Calls Try.prog 95 #[.int .i64 a, .int .i64 b] w fun e w' => e = .returned (.tuple #[.int .i64 (PN.ceil a b).1, .bool (PN.ceil a b).2]) ∧ w = w' := by
  have K := Lib.hid (num_Ceil a b w ha hb)
  clear ha hb
  go_enter Try.func95, Try.ntmps95
  go_wp2_with fail
  refine K.out.mono ?_
  rintro e w1 ⟨rfl, rfl⟩
  go_wp2_with fail
  go_ret2
  exact ⟨rfl, rfl⟩

theorem ceil_right {c : PBd.Case} (h : c.right) : PN.ceil c.ch c.q = (c.drain - 1, true) := by
  unfold PN.ceil PBd.Case.drain
  rw [if_neg (by have := h.1; have := h.2.2.1; omega)]
  simp
def pairBox (x y : Int) : Obj := .cells #[.int .i64 x, .int .i64 y] 3

theorem bound_empty (c : PBd.Case) (w : World) (h : c.right) (hq : c.q ≤ 9223372036854775807) :
    Calls Try.prog 71 #[caseV c] w fun e w' => e = .returned (.int .i64 c.drain) ∧ (w.alloc (caseBox c)).alloc (pairBox (c.drain - 1) 1) = w' := by
  have hd := PBd.drain_bd h
  have L := fun W => drain_Last c.ch c.q W (by have := h.1; have := h.2.1; omega) (by have := h.2.2.1; omega)
  rw [ceil_right h] at L
  have K := bound_plus ((w.alloc (caseBox c)).heap.size) (c.drain - 1) 1 ((w.alloc (caseBox c)).alloc (pairBox (c.drain - 1) 1)) (by omega) (by omega) (by omega) (by simp [pairBox, go_sem]) (by simp [pairBox, go_sem])
  rw [World.size_alloc] at K
  rw [show c.drain - 1 + 1 = c.drain by omega] at K
  obtain ⟨ch, q, cl, wi, ah⟩ := c
  unfold caseV
  unfold caseBox pairBox at K ⊢
  dsimp only at L K ⊢
  generalize PBd.Case.drain ⟨ch, q, cl, wi, ah⟩ = d at *
  replace L := Lib.hid L
  replace K := Lib.hid K
  obtain ⟨d1, hd1⟩ : ∃ x, d - 1 = x := ⟨_, rfl⟩
  rw [hd1] at L K ⊢
  clear h hd1 hd
  go_enter Try.func71, Try.ntmps71
  go_wp2_with fail
  refine (L.out _).mono ?_
  rintro e w1 ⟨rfl, rfl⟩
  go_wp2_with fail
  refine (bound_must_yes _ _).mono ?_
  rintro e w1 ⟨rfl, rfl⟩
  go_wp2_with fail
  refine K.out.mono ?_
  rintro e w1 ⟨rfl, rfl⟩
  go_wp2_with fail
  go_ret
  exact ⟨rfl, rfl⟩
end Go.Proofs.Ytfgfnfjeopjbgaa
