/-
  Layer 47 (bound): Ticket's closure; Drain, Head, Ticket.
-/
import Derived.Test.YtfgfnfjeopjbgaaBoundF
import Derived.Deep.RegionHeld2
namespace Go.Proofs.Ytfgfnfjeopjbgaa
open Go.RowKit
set_option linter.unusedVariables false
attribute [local go_sem] drewN_alloc drewN_setCell

/-- A case in memory. -/
def CaseAt (w : World) (b : Nat) (c : PBd.Case) : Prop := b < w.heap.size ∧ w.cell? ⟨b, 0, none⟩ = some (.int .i64 c.ch) ∧ w.cell? ⟨b, 1, none⟩ = some (.int .i64 c.q) ∧ w.cell? ⟨b, 2, none⟩ = some (.int .i64 c.cl) ∧ w.cell? ⟨b, 3, none⟩ = some (.int .i64 c.wi) ∧ w.cell? ⟨b, 4, none⟩ = some (.int .i64 c.ah)
theorem CaseAt.keep {w w' : World} {b : Nat} {c : PBd.Case} (h : CaseAt w b c) (k : Below w.heap.size w w') : CaseAt w' b c :=
  ⟨Nat.lt_of_lt_of_le h.1 k.size, (k.cell h.1).trans h.2.1, (k.cell h.1).trans h.2.2.1, (k.cell h.1).trans h.2.2.2.1, (k.cell h.1).trans h.2.2.2.2.1, (k.cell h.1).trans h.2.2.2.2.2⟩
theorem bound_first_no (c : PBd.Case) (w : World) (h : c.right) (hq : c.q ≤ 9223372036854775807) (hw : c.wi ≤ 9223372036854775807) (hf : PBd.big < c.head) :
    Calls Try.prog 72 #[caseV c] w fun e w' => Over e ∧ Below w.heap.size w w' := by
  by_cases hg : c.inner ≤ PBd.big
  · exact bound_first_h c w h hq hw hf hg
  · exact bound_first_i c w h hq hw (by omega)

set_option maxRecDepth 100000 in
set_option maxHeartbeats 2000000 in
theorem ticket1_yes (c : PBd.Case) (b : Nat) (w : World) (h : c.right) (hq : c.q ≤ 9223372036854775807) (hw : c.wi ≤ 9223372036854775807) (ht : c.ticket ≤ PBd.big) (hc : CaseAt w b c) :
    Calls Try.prog 73 #[.pointer (some ⟨b, 0, none⟩)] w fun e w' => e = .returned (.int .i64 c.ticket) ∧ Below w.heap.size w w' := by
  have hi := PBd.inner_bd h
  have hd := PBd.head_ge h
  have hg := PBd.ticket_ge h
  have P1 := fun (W : World) (b : Nat) => bound_plus b c.ah 1 W (by have := h.2.2.2.2.2.2; omega) (by omega) (by have := h.2.2.2.2.2.2; omega)
  have E := fun (W : World) => bound_first c W h hq hw (by unfold PBd.big at *; omega)
  have T1 := fun (W : World) (b : Nat) => bound_times b (c.ah + 1) c.head W (by have := h.2.2.2.2.2.2; omega) (by unfold PBd.big at *; omega) (by unfold PBd.big at *; unfold PBd.Case.ticket at hg ht; omega)
  rw [show c.ticket = (c.ah + 1) * c.head from rfl]
  have KS : ∀ w', Below w.heap.size w w' → (Below w.heap.size w w' ∧ w'.cell? ⟨b, 0, none⟩ = some (.int .i64 c.ch) ∧ w'.cell? ⟨b, 1, none⟩ = some (.int .i64 c.q) ∧ w'.cell? ⟨b, 2, none⟩ = some (.int .i64 c.cl) ∧ w'.cell? ⟨b, 3, none⟩ = some (.int .i64 c.wi) ∧ w'.cell? ⟨b, 4, none⟩ = some (.int .i64 c.ah)) :=
    fun w' hb => ⟨hb, (hc.keep hb).2.1, (hc.keep hb).2.2.1, (hc.keep hb).2.2.2.1, (hc.keep hb).2.2.2.2.1, (hc.keep hb).2.2.2.2.2⟩
  clear hc hi hd hg ht hq hw h
  generalize (c.ah + 1) * c.head = tick at *
  generalize c.head = head at *
  generalize c.ah + 1 = ah1 at *
  obtain ⟨ch, q, cl, wi, ah⟩ := c
  unfold caseV at E
  dsimp only at *
  replace P1 := Lib.hid P1
  replace E := Lib.hid E
  replace KS := Lib.hid KS
  replace T1 := Lib.hid T1
  go_enter Try.func73, Try.ntmps73
  go_wp2_with fail
  go_region_held3 (fun w' => Below w.heap.size w w' ∧ w'.cell? ⟨b, 0, none⟩ = some (.int .i64 ch) ∧ w'.cell? ⟨b, 1, none⟩ = some (.int .i64 q) ∧ w'.cell? ⟨b, 2, none⟩ = some (.int .i64 cl) ∧ w'.cell? ⟨b, 3, none⟩ = some (.int .i64 wi) ∧ w'.cell? ⟨b, 4, none⟩ = some (.int .i64 ah)) (exact KS.out _ (by repeat (first | exact Below.refl _ _ | assumption | refine bel_drew ?_ | refine bel_drewN ?_ _ | refine bel_alloc ?_ _ | refine bel_set ?_ (by first | (dsimp only; omega) | (simp; done) | (simp; omega)) _ | refine bel_trans ?_ (by assumption)))) (first
    | (go_simp; go_at_call 75; refine Calls.mono (P1.out _ _ ?_ ?_) ?_; (focus (first | (go_simp; done) | (exact cell_after (by assumption) (by simp) (by simp [go_sem])))); (focus (first | (go_simp; done) | (exact cell_after (by assumption) (by simp) (by simp [go_sem])))); rintro e w5 ⟨rfl, rfl⟩)
    | (go_simp; go_at_call 72; refine Calls.mono (E.out _) ?_; rintro e w5 ⟨rfl, hb5⟩)
    | (go_simp; go_at_call 74; refine Calls.mono (T1.out _ _ ?_ ?_) ?_; (focus (first | (go_simp; done) | (exact cell_after (by assumption) (by simp) (by simp [go_sem])))); (focus (first | (go_simp; done) | (exact cell_after (by assumption) (by simp) (by simp [go_sem])))); rintro e w5 ⟨rfl, rfl⟩))
  all_goals
    go_wp2_with fail
    go_ret
    exact ⟨rfl, (by repeat (first | exact Below.refl _ _ | assumption | refine bel_drew ?_ | refine bel_drewN ?_ _ | refine bel_alloc ?_ _ | refine bel_set ?_ (by first | (dsimp only; omega) | (simp; done) | (simp; omega)) _ | refine bel_trans ?_ (by assumption)))⟩

set_option maxRecDepth 100000 in
set_option maxHeartbeats 2000000 in
theorem ticket1_t (c : PBd.Case) (b : Nat) (w : World) (h : c.right) (hq : c.q ≤ 9223372036854775807) (hw : c.wi ≤ 9223372036854775807) (hh : c.head ≤ PBd.big) (ht : PBd.big < c.ticket) (hc : CaseAt w b c) :
    Calls Try.prog 73 #[.pointer (some ⟨b, 0, none⟩)] w fun e w' => Over e ∧ Below w.heap.size w w' := by
  have hi := PBd.inner_bd h
  have hd := PBd.head_ge h
  have hg := PBd.ticket_ge h
  have P1 := fun (W : World) (b : Nat) => bound_plus b c.ah 1 W (by have := h.2.2.2.2.2.2; omega) (by omega) (by have := h.2.2.2.2.2.2; omega)
  have E := fun (W : World) => bound_first c W h hq hw (by unfold PBd.big at *; omega)
  have T1 := fun (W : World) (b : Nat) => bound_times_no b (c.ah + 1) c.head W (by have := h.2.2.2.2.2.2; omega) (by unfold PBd.big at *; omega) (by unfold PBd.big at *; unfold PBd.Case.ticket at hg ht; omega)
  have KS : ∀ w', Below w.heap.size w w' → (Below w.heap.size w w' ∧ w'.cell? ⟨b, 0, none⟩ = some (.int .i64 c.ch) ∧ w'.cell? ⟨b, 1, none⟩ = some (.int .i64 c.q) ∧ w'.cell? ⟨b, 2, none⟩ = some (.int .i64 c.cl) ∧ w'.cell? ⟨b, 3, none⟩ = some (.int .i64 c.wi) ∧ w'.cell? ⟨b, 4, none⟩ = some (.int .i64 c.ah)) :=
    fun w' hb => ⟨hb, (hc.keep hb).2.1, (hc.keep hb).2.2.1, (hc.keep hb).2.2.2.1, (hc.keep hb).2.2.2.2.1, (hc.keep hb).2.2.2.2.2⟩
  clear hc hi hd hg ht hh hq hw h
  generalize c.head = head at *
  generalize c.ah + 1 = ah1 at *
  obtain ⟨ch, q, cl, wi, ah⟩ := c
  unfold caseV at E
  dsimp only at *
  replace P1 := Lib.hid P1
  replace E := Lib.hid E
  replace KS := Lib.hid KS
  replace T1 := Lib.hid T1
  go_enter Try.func73, Try.ntmps73
  go_wp2_with fail
  go_region_held2 (fun w' => Below w.heap.size w w' ∧ w'.cell? ⟨b, 0, none⟩ = some (.int .i64 ch) ∧ w'.cell? ⟨b, 1, none⟩ = some (.int .i64 q) ∧ w'.cell? ⟨b, 2, none⟩ = some (.int .i64 cl) ∧ w'.cell? ⟨b, 3, none⟩ = some (.int .i64 wi) ∧ w'.cell? ⟨b, 4, none⟩ = some (.int .i64 ah)) (exact KS.out _ (by repeat (first | exact Below.refl _ _ | assumption | refine bel_drew ?_ | refine bel_drewN ?_ _ | refine bel_alloc ?_ _ | refine bel_set ?_ (by first | (dsimp only; omega) | (simp; done) | (simp; omega)) _ | refine bel_trans ?_ (by assumption)))) (first
    | (go_simp; go_at_call 75; refine Calls.mono (P1.out _ _ ?_ ?_) ?_; (focus (first | (go_simp; done) | (exact cell_after (by assumption) (by simp) (by simp [go_sem])))); (focus (first | (go_simp; done) | (exact cell_after (by assumption) (by simp) (by simp [go_sem])))); rintro e w5 ⟨rfl, rfl⟩)
    | (go_simp; go_at_call 72; refine Calls.mono (E.out _) ?_; rintro e w5 ⟨rfl, hb5⟩)
    | (go_simp; go_at_call 74; refine calls_dead (v := .int .i64 0) (T1.out _ _ ?_ ?_) ?_ ?_; (focus (first | (go_simp; done) | (exact cell_after (by assumption) (by simp) (by simp [go_sem])))); (focus (first | (go_simp; done) | (exact cell_after (by assumption) (by simp) (by simp [go_sem])))); (focus (rintro e w5 ⟨he, rfl⟩; obtain rfl := he; exact ⟨rfl, rfl, (by repeat (first | exact Below.refl _ _ | assumption | refine bel_drew ?_ | refine bel_drewN ?_ _ | refine bel_alloc ?_ _ | refine bel_set ?_ (by first | (dsimp only; omega) | (simp; done) | (simp; omega)) _ | refine bel_trans ?_ (by assumption)))⟩)); (intro HF; dsimp only)))
  all_goals
    exact (‹Hid False› : Hid False).out.elim

set_option maxRecDepth 100000 in
set_option maxHeartbeats 2000000 in
theorem ticket1_h (c : PBd.Case) (b : Nat) (w : World) (h : c.right) (hq : c.q ≤ 9223372036854775807) (hw : c.wi ≤ 9223372036854775807) (hh : PBd.big < c.head) (hc : CaseAt w b c) :
    Calls Try.prog 73 #[.pointer (some ⟨b, 0, none⟩)] w fun e w' => Over e ∧ Below w.heap.size w w' := by
  have hi := PBd.inner_bd h
  have hd := PBd.head_ge h
  have hg := PBd.ticket_ge h
  have P1 := fun (W : World) (b : Nat) => bound_plus b c.ah 1 W (by have := h.2.2.2.2.2.2; omega) (by omega) (by have := h.2.2.2.2.2.2; omega)
  have E := fun (W : World) => bound_first_no c W h hq hw hh
  have KS : ∀ w', Below w.heap.size w w' → (Below w.heap.size w w' ∧ w'.cell? ⟨b, 0, none⟩ = some (.int .i64 c.ch) ∧ w'.cell? ⟨b, 1, none⟩ = some (.int .i64 c.q) ∧ w'.cell? ⟨b, 2, none⟩ = some (.int .i64 c.cl) ∧ w'.cell? ⟨b, 3, none⟩ = some (.int .i64 c.wi) ∧ w'.cell? ⟨b, 4, none⟩ = some (.int .i64 c.ah)) :=
    fun w' hb => ⟨hb, (hc.keep hb).2.1, (hc.keep hb).2.2.1, (hc.keep hb).2.2.2.1, (hc.keep hb).2.2.2.2.1, (hc.keep hb).2.2.2.2.2⟩
  clear hc hi hd hg hh hq hw h
  generalize c.head = head at *
  generalize c.ah + 1 = ah1 at *
  obtain ⟨ch, q, cl, wi, ah⟩ := c
  unfold caseV at E
  dsimp only at *
  replace P1 := Lib.hid P1
  replace E := Lib.hid E
  replace KS := Lib.hid KS
  go_enter Try.func73, Try.ntmps73
  go_wp2_with fail
  go_region_held2 (fun w' => Below w.heap.size w w' ∧ w'.cell? ⟨b, 0, none⟩ = some (.int .i64 ch) ∧ w'.cell? ⟨b, 1, none⟩ = some (.int .i64 q) ∧ w'.cell? ⟨b, 2, none⟩ = some (.int .i64 cl) ∧ w'.cell? ⟨b, 3, none⟩ = some (.int .i64 wi) ∧ w'.cell? ⟨b, 4, none⟩ = some (.int .i64 ah)) (exact KS.out _ (by repeat (first | exact Below.refl _ _ | assumption | refine bel_drew ?_ | refine bel_drewN ?_ _ | refine bel_alloc ?_ _ | refine bel_set ?_ (by first | (dsimp only; omega) | (simp; done) | (simp; omega)) _ | refine bel_trans ?_ (by assumption)))) (first
    | (go_simp; go_at_call 75; refine Calls.mono (P1.out _ _ ?_ ?_) ?_; (focus (first | (go_simp; done) | (exact cell_after (by assumption) (by simp) (by simp [go_sem])))); (focus (first | (go_simp; done) | (exact cell_after (by assumption) (by simp) (by simp [go_sem])))); rintro e w5 ⟨rfl, rfl⟩)
    | (go_simp; go_at_call 72; refine calls_dead (v := .int .i64 0) (E.out _) ?_ ?_; (focus (rintro e w5 ⟨he, hb5⟩; obtain rfl := he; exact ⟨rfl, rfl, (by repeat (first | exact Below.refl _ _ | assumption | refine bel_drew ?_ | refine bel_drewN ?_ _ | refine bel_alloc ?_ _ | refine bel_set ?_ (by first | (dsimp only; omega) | (simp; done) | (simp; omega)) _ | refine bel_trans ?_ (by assumption)))⟩)); (intro HF; dsimp only))
    | (go_simp; go_at_call 74; refine calls_gone (v := .int .i64 0) ‹Hid False› ?_; dsimp only))
  all_goals
    exact (‹Hid False› : Hid False).out.elim
end Go.Proofs.Ytfgfnfjeopjbgaa
