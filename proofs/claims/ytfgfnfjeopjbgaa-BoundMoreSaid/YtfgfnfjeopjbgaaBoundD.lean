/-
  Layer 47 (bound): a head's time.
-/
import Derived.Test.YtfgfnfjeopjbgaaBoundC
import Derived.Test.YtfgfnfjeopjbgaaDead
import Derived.Deep.RegionHeld2
namespace Go.Proofs.Ytfgfnfjeopjbgaa
open Go.RowKit
set_option linter.unusedVariables false
attribute [local go_sem] drewN_alloc drewN_setCell

set_option maxRecDepth 100000 in
set_option maxHeartbeats 2000000 in
theorem bound_first_h (c : PBd.Case) (w : World) (h : c.right) (hq : c.q ≤ 9223372036854775807) (hw : c.wi ≤ 9223372036854775807) (hf : PBd.big < c.head) (hg : c.inner ≤ PBd.big) :
    Calls Try.prog 72 #[caseV c] w fun e w' => Over e ∧ Below w.heap.size w w' := by
  have hd := PBd.drain_bd h
  have hm := PBd.mid_bd h
  have hi := PBd.inner_bd h
  have hh := PBd.head_ge h
  unfold PBd.big at hf hg
  have P1 := fun (W : World) (b : Nat) => bound_plus b c.cl 9 W (by have := h.2.2.2; omega) (by omega) (by have := h.2.2.2; omega)
  have P2 := fun (W : World) (b : Nat) => bound_plus b c.ch 2 W (by have := h.1; have := h.2.1; omega) (by omega) (by have := h.1; have := h.2.1; omega)
  have E := fun (W : World) => bound_empty c W h hq
  have T1 := fun (W : World) (b : Nat) => bound_times b (c.ch + 2) c.drain W (by have := h.1; have := h.2.1; omega) (by omega) (by omega)
  have P3 := fun (W : World) (b : Nat) => bound_plus b c.wi ((c.ch + 2) * c.drain) W (by have := h.2.2.2.2.2.1; omega) (by omega) (by unfold PBd.Case.inner at hi hg; omega)
  have T2 := fun (W : World) (b : Nat) => bound_times_no b (c.cl + 9) (c.wi + (c.ch + 2) * c.drain) W (by have := h.2.2.2; omega) (by unfold PBd.Case.inner at hi hg; omega) (by unfold PBd.Case.head PBd.Case.inner at hf; omega)
  clear hd hm hi hh hf hg hq hw h
  generalize (c.cl + 9) * (c.wi + (c.ch + 2) * c.drain) = head at *
  generalize c.wi + (c.ch + 2) * c.drain = inner at *
  generalize (c.ch + 2) * c.drain = mid at *
  generalize c.drain = d at *
  generalize c.ch + 2 = ch2 at *
  generalize c.cl + 9 = cl9 at *
  obtain ⟨ch, q, cl, wi, ah⟩ := c
  unfold caseV caseBox pairBox at E
  unfold caseV
  dsimp only at P1 P2 E T1 P3 T2 ⊢
  replace P1 := Lib.hid P1
  replace P2 := Lib.hid P2
  replace P3 := Lib.hid P3
  replace T1 := Lib.hid T1
  replace T2 := Lib.hid T2
  replace E := Lib.hid E
  have hs0 : w.heap.size < (w.alloc (.cells #[.int .i64 ch, .int .i64 q, .int .i64 cl, .int .i64 wi, .int .i64 ah] 23)).heap.size := by simp
  go_enter Try.func72, Try.ntmps72
  go_wp2_with fail
  go_region_held2 (fun w' => w'.cell? ⟨w.heap.size, 0, none⟩ = some (.int .i64 ch) ∧ w'.cell? ⟨w.heap.size, 1, none⟩ = some (.int .i64 q) ∧ w'.cell? ⟨w.heap.size, 2, none⟩ = some (.int .i64 cl) ∧ w'.cell? ⟨w.heap.size, 3, none⟩ = some (.int .i64 wi) ∧ w'.cell? ⟨w.heap.size, 4, none⟩ = some (.int .i64 ah)) (simp [go_sem]) (first
    | (go_simp; go_at_call 75; refine Calls.mono (P1.out _ _ ?_ ?_) ?_; (focus (go_simp; done)); (focus (go_simp; done)); rintro e w5 ⟨rfl, rfl⟩)
    | (go_simp; go_at_call 75; refine Calls.mono (P2.out _ _ ?_ ?_) ?_; (focus (go_simp; done)); (focus (go_simp; done)); rintro e w5 ⟨rfl, rfl⟩)
    | (go_simp; go_at_call 75; refine Calls.mono (P3.out _ _ ?_ ?_) ?_; (focus (go_simp; done)); (focus (go_simp; done)); rintro e w5 ⟨rfl, rfl⟩)
    | (go_simp; go_at_call 74; refine Calls.mono (T1.out _ _ ?_ ?_) ?_; (focus (go_simp; done)); (focus (go_simp; done)); rintro e w5 ⟨rfl, rfl⟩)
    | (go_simp; go_at_call 74; refine calls_dead (v := .int .i64 0) (T2.out _ _ ?_ ?_) ?_ ?_; (focus (go_simp; done)); (focus (go_simp; done)); (focus (rintro e w5 ⟨he, rfl⟩; obtain rfl := he; exact ⟨rfl, rfl, (by repeat (first | exact Below.refl _ _ | assumption | refine bel_drew ?_ | refine bel_drewN ?_ _ | refine bel_alloc ?_ _ | refine bel_set ?_ (by first | (dsimp only; omega) | (simp; done) | (simp; omega)) _ | refine bel_trans ?_ (by assumption)))⟩)); (intro HF; dsimp only))
    | (go_simp; go_at_call 71; refine Calls.mono (E.out _) ?_; rintro e w5 ⟨rfl, rfl⟩))
  all_goals
    exact (‹Hid False› : Hid False).out.elim

set_option maxRecDepth 100000 in
set_option maxHeartbeats 2000000 in
theorem bound_first_i (c : PBd.Case) (w : World) (h : c.right) (hq : c.q ≤ 9223372036854775807) (hw : c.wi ≤ 9223372036854775807) (hf : PBd.big < c.inner) :
    Calls Try.prog 72 #[caseV c] w fun e w' => Over e ∧ Below w.heap.size w w' := by
  have hd := PBd.drain_bd h
  have hm := PBd.mid_bd h
  have hi := PBd.inner_bd h
  have hh := PBd.head_ge h
  unfold PBd.big at hf
  have P1 := fun (W : World) (b : Nat) => bound_plus b c.cl 9 W (by have := h.2.2.2; omega) (by omega) (by have := h.2.2.2; omega)
  have P2 := fun (W : World) (b : Nat) => bound_plus b c.ch 2 W (by have := h.1; have := h.2.1; omega) (by omega) (by have := h.1; have := h.2.1; omega)
  have E := fun (W : World) => bound_empty c W h hq
  have T1 := fun (W : World) (b : Nat) => bound_times b (c.ch + 2) c.drain W (by have := h.1; have := h.2.1; omega) (by omega) (by omega)
  have P3 := fun (W : World) (b : Nat) => bound_plus_no b c.wi ((c.ch + 2) * c.drain) W (by have := h.2.2.2.2.2.1; omega) (by omega) (by unfold PBd.Case.inner at hf; omega)
  clear hd hm hi hh hf hq hw h
  generalize (c.cl + 9) * (c.wi + (c.ch + 2) * c.drain) = head at *
  generalize c.wi + (c.ch + 2) * c.drain = inner at *
  generalize (c.ch + 2) * c.drain = mid at *
  generalize c.drain = d at *
  generalize c.ch + 2 = ch2 at *
  generalize c.cl + 9 = cl9 at *
  obtain ⟨ch, q, cl, wi, ah⟩ := c
  unfold caseV caseBox pairBox at E
  unfold caseV
  dsimp only at P1 P2 E T1 P3 ⊢
  replace P1 := Lib.hid P1
  replace P2 := Lib.hid P2
  replace P3 := Lib.hid P3
  replace T1 := Lib.hid T1
  replace E := Lib.hid E
  have hs0 : w.heap.size < (w.alloc (.cells #[.int .i64 ch, .int .i64 q, .int .i64 cl, .int .i64 wi, .int .i64 ah] 23)).heap.size := by simp
  go_enter Try.func72, Try.ntmps72
  go_wp2_with fail
  go_region_held2 (fun w' => w'.cell? ⟨w.heap.size, 0, none⟩ = some (.int .i64 ch) ∧ w'.cell? ⟨w.heap.size, 1, none⟩ = some (.int .i64 q) ∧ w'.cell? ⟨w.heap.size, 2, none⟩ = some (.int .i64 cl) ∧ w'.cell? ⟨w.heap.size, 3, none⟩ = some (.int .i64 wi) ∧ w'.cell? ⟨w.heap.size, 4, none⟩ = some (.int .i64 ah)) (simp [go_sem]) (first
    | (go_simp; go_at_call 75; refine Calls.mono (P1.out _ _ ?_ ?_) ?_; (focus (go_simp; done)); (focus (go_simp; done)); rintro e w5 ⟨rfl, rfl⟩)
    | (go_simp; go_at_call 75; refine Calls.mono (P2.out _ _ ?_ ?_) ?_; (focus (go_simp; done)); (focus (go_simp; done)); rintro e w5 ⟨rfl, rfl⟩)
    | (go_simp; go_at_call 75; refine calls_dead (v := .int .i64 0) (P3.out _ _ ?_ ?_) ?_ ?_; (focus (go_simp; done)); (focus (go_simp; done)); (focus (rintro e w5 ⟨he, rfl⟩; obtain rfl := he; exact ⟨rfl, rfl, (by repeat (first | exact Below.refl _ _ | assumption | refine bel_drew ?_ | refine bel_drewN ?_ _ | refine bel_alloc ?_ _ | refine bel_set ?_ (by first | (dsimp only; omega) | (simp; done) | (simp; omega)) _ | refine bel_trans ?_ (by assumption)))⟩)); (intro HF; dsimp only))
    | (go_simp; go_at_call 74; refine calls_gone (v := .int .i64 0) ‹Hid False› ?_; dsimp only)
    | (go_simp; go_at_call 74; refine Calls.mono (T1.out _ _ ?_ ?_) ?_; (focus (go_simp; done)); (focus (go_simp; done)); rintro e w5 ⟨rfl, rfl⟩)
    | (go_simp; go_at_call 71; refine Calls.mono (E.out _) ?_; rintro e w5 ⟨rfl, rfl⟩))
  all_goals
    exact (‹Hid False› : Hid False).out.elim
end Go.Proofs.Ytfgfnfjeopjbgaa
