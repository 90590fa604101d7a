/-
  skip.reasons, Why, May, Next.
-/
import Derived.Test.YthmjbfocpdiikaaSkipC
namespace Go.Proofs.Ythmjbfocpdiikaa
open Go.RowKit
set_option linter.unusedVariables false
set_option linter.unusedSimpArgs false
attribute [local go_sem] drewN_alloc drewN_setCell

@[local go_sem] theorem run_store_fn (P : Program) (w : World) (a : Addr) (m : Mode) (f : Fn) : (store a (.func f #[] #[]) m).run P w = stored P w a (.func f #[] #[]) m := run_store P w a _ m rfl
namespace SK
open PO
/-- Which ticket goes next; -1: none. -/
def next (ts : List Tick) (ms : List Mem) (f w : Int) : Int := match (List.range ts.length).findIdx? (fun i : Nat => decide (why ts ms f w (i : Int) = 0)) with | some i => (i : Int) | none => -1
theorem next_at {ts : List Tick} {ms : List Mem} {f w : Int} {k : Nat} (hk : k < ts.length) (hn : ∀ j : Nat, j < k → why ts ms f w (j : Int) ≠ 0) (h : why ts ms f w (k : Int) = 0) : next ts ms f w = k := by
  unfold next
  have : (List.range ts.length).findIdx? (fun i : Nat => decide (why ts ms f w (i : Int) = 0)) = some k := by
    rw [List.findIdx?_eq_some_iff_getElem]
    refine ⟨by simpa using hk, by simpa using h, fun j hj => ?_⟩
    have := hn j hj
    simpa using this
  rw [this]
theorem next_none {ts : List Tick} {ms : List Mem} {f w : Int} (hn : ∀ j : Nat, j < ts.length → why ts ms f w (j : Int) ≠ 0) : next ts ms f w = -1 := by
  unfold next
  rw [List.findIdx?_eq_none_iff.2]
  intro i hi
  simpa using hn i (by simpa using hi)
end SK

def ReasonsAt (w : World) (b : Nat) : Prop := w.cell? ⟨b, 0, none⟩ = some (.int .i64 1) ∧ w.cell? ⟨b, 1, none⟩ = some (.func (.func 80) #[] #[]) ∧ w.cell? ⟨b, 2, none⟩ = some (.int .i64 2) ∧ w.cell? ⟨b, 3, none⟩ = some (.func (.func 81) #[] #[]) ∧ w.cell? ⟨b, 4, none⟩ = some (.int .i64 3) ∧ w.cell? ⟨b, 5, none⟩ = some (.func (.func 83) #[] #[]) ∧ w.cell? ⟨b, 6, none⟩ = some (.int .i64 4) ∧ w.cell? ⟨b, 7, none⟩ = some (.func (.func 86) #[] #[]) ∧ w.cell? ⟨b, 8, none⟩ = some (.int .i64 5) ∧ w.cell? ⟨b, 9, none⟩ = some (.func (.func 87) #[] #[])
theorem ReasonsAt.keep {w w' : World} {b B : Nat} (h : ReasonsAt w b) (k : Below B w w') (hb : b < B) : ReasonsAt w' b := by
  obtain ⟨x0, x1, x2, x3, x4, x5, x6, x7, x8, x9⟩ := h
  exact ⟨(k.cell hb).trans x0, (k.cell hb).trans x1, (k.cell hb).trans x2, (k.cell hb).trans x3, (k.cell hb).trans x4, (k.cell hb).trans x5, (k.cell hb).trans x6, (k.cell hb).trans x7, (k.cell hb).trans x8, (k.cell hb).trans x9⟩
def GivesReasons (w : World) (e : Ending) (w' : World) : Prop := ∃ b, e = .returned (.slice (some ⟨b, 0, none⟩) 5 5) ∧ w.heap.size ≤ b ∧ b < w'.heap.size ∧ ReasonsAt w' b ∧ Below w.heap.size w w'

set_option maxHeartbeats 2000000 in
theorem skip_reasons (w : World) :
    Calls Try.prog 64 #[] w fun e w' => GivesReasons w e w' := by
  go_enter Try.func64, Try.ntmps64
  go_wp2_with fail
  exact bodyPost_ret (v := .slice (some ⟨w.heap.size, 0, none⟩) 5 5) (by simp [results, Try.results64, go_sem]) rfl ⟨_, rfl, Nat.le_refl _, by simp, by unfold ReasonsAt; refine ⟨?_, ?_, ?_, ?_, ?_, ?_, ?_, ?_, ?_, ?_⟩ <;> simp [go_sem], (by repeat (first | exact Below.refl _ _ | assumption | refine bel_drew ?_ | refine bel_drewN ?_ _ | refine bel_alloc ?_ _ | refine bel_set ?_ (by first | (dsimp only; omega) | (simp; done) | (simp; omega)) _ | refine bel_trans ?_ (by assumption)))⟩

theorem why_parts {TA MA : Option Addr} {tn mn : Nat} {ts : List SK.Tick} {ms : List PO.Mem} (tc mc : Nat) (f wt a : Int) {w : World} (h : TickAt w TA tn ts) (hm : MemAt w MA mn ms) (hn : mn ≤ 1000) (bf : -9223372036854775808 ≤ f ∧ f ≤ 9223372036854775807) (bw : -9223372036854775808 ≤ wt ∧ wt ≤ 9223372036854775807) (htc : tn ≤ tc) (hcm : tc ≤ 9223372036854775807) :
    ∃ r1 r2 r3 r4 r5 : Bool, SK.why ts ms f wt a = (if r1 = true then 1 else if r2 = true then 2 else if r3 = true then 3 else if r4 = true then 4 else if r5 = true then 5 else 0) ∧
      (∀ W, Below w.heap.size w W → Calls Try.prog 80 #[.agg #[.slice TA tn tc, .slice MA mn mc, .int .i64 f, .int .i64 wt], .int .i64 a] W fun e w' => e = .returned (.bool r1) ∧ Below W.heap.size W w') ∧ (r1 = false → (∀ W, Below w.heap.size w W → Calls Try.prog 81 #[.agg #[.slice TA tn tc, .slice MA mn mc, .int .i64 f, .int .i64 wt], .int .i64 a] W fun e w' => e = .returned (.bool r2) ∧ Below W.heap.size W w')) ∧ (r1 = false → r2 = false → (∀ W, Below w.heap.size w W → Calls Try.prog 83 #[.agg #[.slice TA tn tc, .slice MA mn mc, .int .i64 f, .int .i64 wt], .int .i64 a] W fun e w' => e = .returned (.bool r3) ∧ Below W.heap.size W w')) ∧ (r1 = false → r2 = false → (∀ W, Below w.heap.size w W → Calls Try.prog 86 #[.agg #[.slice TA tn tc, .slice MA mn mc, .int .i64 f, .int .i64 wt], .int .i64 a] W fun e w' => e = .returned (.bool r4) ∧ Below W.heap.size W w')) ∧ (r1 = false → r2 = false → (∀ W, Below w.heap.size w W → Calls Try.prog 87 #[.agg #[.slice TA tn tc, .slice MA mn mc, .int .i64 f, .int .i64 wt], .int .i64 a] W fun e w' => e = .returned (.bool r5) ∧ Below W.heap.size W w')) := by
  have hl := h.1
  have hlm := hm.1
  by_cases h1 : a < 0 ∨ (tn : Int) ≤ a
  · refine ⟨true, false, false, false, false, ?_, fun W hW => ?_, nofun, nofun, nofun, nofun⟩
    · unfold SK.why; rw [if_pos (by rw [hl]; exact h1)]; rfl
    · have := reason1 TA MA tn tc mn mc f wt a W
      rwa [decide_eq_true h1] at this
  obtain ⟨k, rfl⟩ : ∃ k : Nat, a = k := ⟨a.toNat, by omega⟩
  have hk : k < tn := by omega
  have e0 : SK.why ts ms f wt (k : Int) = (if SK.member ms (SK.cl ts k) < 0 then 2 else if SK.ahead ts k = true then 3 else if PO.bmay f wt ms (SK.member ms (SK.cl ts k)) (ts.getD k SK.t0).2.2.1 = false then 4 else if 0 < (k : Int) ∧ (ms.getD (SK.member ms (SK.cl ts k)).toNat PO.m0).2.2.1 = 0 ∧ 8 ≤ (ts.getD 0 SK.t0).2.2.2.2 then 5 else 0) := by
    unfold SK.why; rw [if_neg (by rw [hl]; exact h1)]; rfl
  have c1 : ∀ W, Below w.heap.size w W → Calls Try.prog 80 #[.agg #[.slice TA tn tc, .slice MA mn mc, .int .i64 f, .int .i64 wt], .int .i64 (k : Int)] W fun e w' => e = .returned (.bool false) ∧ Below W.heap.size W w' := fun W hW => by
    have := reason1 TA MA tn tc mn mc f wt k W
    rwa [decide_eq_false h1] at this
  by_cases h2 : SK.member ms (SK.cl ts k) < 0
  · refine ⟨false, true, false, false, false, ?_, c1, fun _ W hW => ?_, fun _ => nofun, fun _ => nofun, fun _ => nofun⟩
    · rw [e0, if_pos h2]; rfl
    · have := reason2 tc mc k f wt (h.keep hW) (hm.keep hW) hk
      rwa [decide_eq_true h2] at this
  obtain ⟨j, hj, hjm⟩ := SK.idx_lt (p := fun m => decide (m.1 = SK.cl ts k)) (l := ms) (by unfold SK.member at h2; omega)
  have hj' : SK.member ms (SK.cl ts k) = (j : Int) := hj
  refine ⟨false, false, SK.ahead ts k, !(PO.bmay f wt ms (SK.member ms (SK.cl ts k)) (ts.getD k SK.t0).2.2.1), (decide (0 < (k : Int)) && (decide ((ms.getD j PO.m0).2.2.1 = 0) && decide (8 ≤ (ts.getD 0 SK.t0).2.2.2.2))), ?_, c1, fun _ W hW => ?_, fun _ _ W hW => ?_, fun _ _ W hW => ?_, fun _ _ W hW => ?_⟩
  · rw [e0, if_neg h2, hj']
    simp only [reduceIte, Bool.false_eq_true, Int.toNat_natCast, Bool.and_eq_true, decide_eq_true_eq, Bool.not_eq_true']
  · have := reason2 tc mc k f wt (h.keep hW) (hm.keep hW) hk
    rwa [decide_eq_false h2] at this
  · exact reason3 tc mn mc k f wt (h.keep hW) hk htc hcm
  · exact reason4 tc mc k f wt (h.keep hW) (hm.keep hW) hk hn bf bw
  · exact reason5 tc mc k j f wt (h.keep hW) (hm.keep hW) hk hj' (by omega)

def WhyRel (w : World) (r1 r2 r3 r4 r5 : Bool) (i : Value) (wr : World) : Prop :=
  ∃ k : Nat, k ≤ 5 ∧ i = .int .i64 k ∧ (1 ≤ k → r1 = false) ∧ (2 ≤ k → r2 = false) ∧ (3 ≤ k → r3 = false) ∧ (4 ≤ k → r4 = false) ∧ (5 ≤ k → r5 = false) ∧ Below w.heap.size w wr

set_option maxRecDepth 100000 in
set_option maxHeartbeats 8000000 in
theorem skip_Why {TA MA : Option Addr} {tn mn : Nat} {ts : List SK.Tick} {ms : List PO.Mem} (tc mc : Nat) (f wt a : Int) {w : World} (h : TickAt w TA tn ts) (hm : MemAt w MA mn ms) (hn : mn ≤ 1000) (bf : -9223372036854775808 ≤ f ∧ f ≤ 9223372036854775807) (bw : -9223372036854775808 ≤ wt ∧ wt ≤ 9223372036854775807) (htc : tn ≤ tc) (hcm : tc ≤ 9223372036854775807) :
    Calls Try.prog 32 #[.slice TA tn tc, .int .i64 a, .int .i64 f, .int .i64 wt, .slice MA mn mc] w fun e w' => e = .returned (.int .i64 (SK.why ts ms f wt a)) ∧ Below w.heap.size w w' := by
  obtain ⟨r1, r2, r3, r4, r5, ew, K1, K2, K3, K4, K5⟩ := why_parts tc mc f wt a h hm hn bf bw htc hcm
  generalize SK.why ts ms f wt a = Y at *
  replace K1 := Lib.hid K1
  replace K2 := Lib.hid K2
  replace K3 := Lib.hid K3
  replace K4 := Lib.hid K4
  replace K5 := Lib.hid K5
  replace ew := Lib.hid ew
  clear h hm
  go_enter Try.func32, Try.ntmps32
  go_wp2_with fail
  refine (skip_reasons _).mono ?_
  rintro e w1 ⟨b, rfl, hb1, hb2, hrs, h1⟩
  have sp : w.heap.size < w1.heap.size := by have := h1.size; simp at this; omega
  have c0 : w1.cell? ⟨w.heap.size, 0, none⟩ = some (.slice TA tn tc) := (h1.cell (p := ⟨w.heap.size, 0, none⟩) (by simp)).trans (by simp [go_sem])
  have c1 : w1.cell? ⟨w.heap.size, 1, none⟩ = some (.slice MA mn mc) := (h1.cell (p := ⟨w.heap.size, 1, none⟩) (by simp)).trans (by simp [go_sem])
  have c2 : w1.cell? ⟨w.heap.size, 2, none⟩ = some (.int .i64 f) := (h1.cell (p := ⟨w.heap.size, 2, none⟩) (by simp)).trans (by simp [go_sem])
  have c3 : w1.cell? ⟨w.heap.size, 3, none⟩ = some (.int .i64 wt) := (h1.cell (p := ⟨w.heap.size, 3, none⟩) (by simp)).trans (by simp [go_sem])
  have hb01 : Below w.heap.size w w1 := bel_trans' (show Below w.heap.size w (w.alloc (.cells #[.slice TA tn tc, .slice MA mn mc, .int .i64 f, .int .i64 wt] 79)) from (by repeat (first | exact Below.refl _ _ | assumption | refine bel_drew ?_ | refine bel_drewN ?_ _ | refine bel_alloc ?_ _ | refine bel_set ?_ (by first | (dsimp only; omega) | (simp; done) | (simp; omega)) _ | refine bel_trans ?_ (by assumption)))) h1 (by simp)
  clear h1
  replace hrs := Lib.hid hrs
  replace c0 := Lib.hid c0
  replace c1 := Lib.hid c1
  replace c2 := Lib.hid c2
  replace c3 := Lib.hid c3
  have HB := Lib.hid hb01
  clear hb01
  go_wp2_with fail
  go_loopw [21] (fun i wr => WhyRel w1 r1 r2 r3 r4 r5 i wr) (fun i _ => 5 - (intOf i).toNat)
  case atStart => exact ⟨0, by omega, rfl, fun h => by omega, fun h => by omega, fun h => by omega, fun h => by omega, fun h => by omega, Below.refl _ _⟩
  case round =>
    obtain ⟨k, hk, rfl, q1, q2, q3, q4, q5, hbel⟩ := hrel
    have d0 := (hbel.cell (p := ⟨w.heap.size, 0, none⟩) sp).trans c0.out
    have d1 := (hbel.cell (p := ⟨w.heap.size, 1, none⟩) sp).trans c1.out
    have d2 := (hbel.cell (p := ⟨w.heap.size, 2, none⟩) sp).trans c2.out
    have d3 := (hbel.cell (p := ⟨w.heap.size, 3, none⟩) sp).trans c3.out
    have spr : w.heap.size < wr.heap.size := Nat.lt_of_lt_of_le sp hbel.size
    have spn : ¬ w.heap.size = wr.heap.size := by omega
    have hbr : b < wr.heap.size := Nat.lt_of_lt_of_le hb2 hbel.size
    have bw1 : Below w.heap.size w wr := bel_trans' HB.out hbel (by omega)
    obtain rfl | rfl | rfl | rfl | rfl | rfl : k = 0 ∨ k = 1 ∨ k = 2 ∨ k = 3 ∨ k = 4 ∨ k = 5 := by omega
    · skip
      obtain ⟨y0, y1, y2, y3, y4, y5, y6, y7, y8, y9⟩ := hrs.out.keep hbel hb2
      have KK := Lib.hid (K1.out )
      rcases r1 with _ | _
      · clear q1 q2 q3 q4 q5
        go_wp2_with fail
        refine (KK.out _ (by exact (by repeat (first | exact Below.refl _ _ | assumption | refine bel_drew ?_ | refine bel_drewN ?_ _ | refine bel_alloc ?_ _ | refine bel_set ?_ (by first | (dsimp only; omega) | (simp; done) | (simp; omega)) _ | refine bel_trans ?_ (by assumption))))).mono ?_
        rintro e w2 ⟨rfl, h2⟩
        go_wp2_with fail
        go_roundw
        case rel => exact ⟨1, by omega, by go_num, fun _ => rfl, fun h => absurd h (by omega), fun h => absurd h (by omega), fun h => absurd h (by omega), fun h => absurd h (by omega), (by repeat (first | exact Below.refl _ _ | assumption | refine bel_drew ?_ | refine bel_drewN ?_ _ | refine bel_alloc ?_ _ | refine bel_set ?_ (by first | (dsimp only; omega) | (simp; done) | (simp; omega)) _ | refine bel_trans ?_ (by assumption)))⟩
        case measure => simp [intOf]
      · have HE : Hid ((1 : Int) = Y) := Lib.hid (by rw [ew.out]; rfl)
        clear q1 q2 q3 q4 q5
        go_wp2_with fail
        refine (KK.out _ (by exact (by repeat (first | exact Below.refl _ _ | assumption | refine bel_drew ?_ | refine bel_drewN ?_ _ | refine bel_alloc ?_ _ | refine bel_set ?_ (by first | (dsimp only; omega) | (simp; done) | (simp; omega)) _ | refine bel_trans ?_ (by assumption))))).mono ?_
        rintro e w2 ⟨rfl, h2⟩
        have x0 : w2.cell? ⟨wr.heap.size, 0, none⟩ = some (.int .i64 1) := (h2.cell (p := ⟨wr.heap.size, 0, none⟩) (by simp)).trans (by simp [go_sem])
        go_wp2_with fail
        go_ret
        exact ⟨ret_int HE.out, (by repeat (first | exact Below.refl _ _ | assumption | refine bel_drew ?_ | refine bel_drewN ?_ _ | refine bel_alloc ?_ _ | refine bel_set ?_ (by first | (dsimp only; omega) | (simp; done) | (simp; omega)) _ | refine bel_trans ?_ (by assumption)))⟩
    · have z1 := q1 (by omega)
      obtain ⟨y0, y1, y2, y3, y4, y5, y6, y7, y8, y9⟩ := hrs.out.keep hbel hb2
      have KK := Lib.hid (K2.out z1)
      rcases r2 with _ | _
      · clear q1 q2 q3 q4 q5
        go_wp2_with fail
        refine (KK.out _ (by exact (by repeat (first | exact Below.refl _ _ | assumption | refine bel_drew ?_ | refine bel_drewN ?_ _ | refine bel_alloc ?_ _ | refine bel_set ?_ (by first | (dsimp only; omega) | (simp; done) | (simp; omega)) _ | refine bel_trans ?_ (by assumption))))).mono ?_
        rintro e w2 ⟨rfl, h2⟩
        go_wp2_with fail
        go_roundw
        case rel => exact ⟨2, by omega, by go_num, fun _ => z1, fun _ => rfl, fun h => absurd h (by omega), fun h => absurd h (by omega), fun h => absurd h (by omega), (by repeat (first | exact Below.refl _ _ | assumption | refine bel_drew ?_ | refine bel_drewN ?_ _ | refine bel_alloc ?_ _ | refine bel_set ?_ (by first | (dsimp only; omega) | (simp; done) | (simp; omega)) _ | refine bel_trans ?_ (by assumption)))⟩
        case measure => simp [intOf]
      · have HE : Hid ((2 : Int) = Y) := Lib.hid (by rw [ew.out, z1]; rfl)
        clear q1 q2 q3 q4 q5
        go_wp2_with fail
        refine (KK.out _ (by exact (by repeat (first | exact Below.refl _ _ | assumption | refine bel_drew ?_ | refine bel_drewN ?_ _ | refine bel_alloc ?_ _ | refine bel_set ?_ (by first | (dsimp only; omega) | (simp; done) | (simp; omega)) _ | refine bel_trans ?_ (by assumption))))).mono ?_
        rintro e w2 ⟨rfl, h2⟩
        have x0 : w2.cell? ⟨wr.heap.size, 0, none⟩ = some (.int .i64 2) := (h2.cell (p := ⟨wr.heap.size, 0, none⟩) (by simp)).trans (by simp [go_sem])
        go_wp2_with fail
        go_ret
        exact ⟨ret_int HE.out, (by repeat (first | exact Below.refl _ _ | assumption | refine bel_drew ?_ | refine bel_drewN ?_ _ | refine bel_alloc ?_ _ | refine bel_set ?_ (by first | (dsimp only; omega) | (simp; done) | (simp; omega)) _ | refine bel_trans ?_ (by assumption)))⟩
    · have z1 := q1 (by omega)
      have z2 := q2 (by omega)
      obtain ⟨y0, y1, y2, y3, y4, y5, y6, y7, y8, y9⟩ := hrs.out.keep hbel hb2
      have KK := Lib.hid (K3.out z1 z2)
      rcases r3 with _ | _
      · clear q1 q2 q3 q4 q5
        go_wp2_with fail
        refine (KK.out _ (by exact (by repeat (first | exact Below.refl _ _ | assumption | refine bel_drew ?_ | refine bel_drewN ?_ _ | refine bel_alloc ?_ _ | refine bel_set ?_ (by first | (dsimp only; omega) | (simp; done) | (simp; omega)) _ | refine bel_trans ?_ (by assumption))))).mono ?_
        rintro e w2 ⟨rfl, h2⟩
        go_wp2_with fail
        go_roundw
        case rel => exact ⟨3, by omega, by go_num, fun _ => z1, fun _ => z2, fun _ => rfl, fun h => absurd h (by omega), fun h => absurd h (by omega), (by repeat (first | exact Below.refl _ _ | assumption | refine bel_drew ?_ | refine bel_drewN ?_ _ | refine bel_alloc ?_ _ | refine bel_set ?_ (by first | (dsimp only; omega) | (simp; done) | (simp; omega)) _ | refine bel_trans ?_ (by assumption)))⟩
        case measure => simp [intOf]
      · have HE : Hid ((3 : Int) = Y) := Lib.hid (by rw [ew.out, z1, z2]; rfl)
        clear q1 q2 q3 q4 q5
        go_wp2_with fail
        refine (KK.out _ (by exact (by repeat (first | exact Below.refl _ _ | assumption | refine bel_drew ?_ | refine bel_drewN ?_ _ | refine bel_alloc ?_ _ | refine bel_set ?_ (by first | (dsimp only; omega) | (simp; done) | (simp; omega)) _ | refine bel_trans ?_ (by assumption))))).mono ?_
        rintro e w2 ⟨rfl, h2⟩
        have x0 : w2.cell? ⟨wr.heap.size, 0, none⟩ = some (.int .i64 3) := (h2.cell (p := ⟨wr.heap.size, 0, none⟩) (by simp)).trans (by simp [go_sem])
        go_wp2_with fail
        go_ret
        exact ⟨ret_int HE.out, (by repeat (first | exact Below.refl _ _ | assumption | refine bel_drew ?_ | refine bel_drewN ?_ _ | refine bel_alloc ?_ _ | refine bel_set ?_ (by first | (dsimp only; omega) | (simp; done) | (simp; omega)) _ | refine bel_trans ?_ (by assumption)))⟩
    · have z1 := q1 (by omega)
      have z2 := q2 (by omega)
      have z3 := q3 (by omega)
      obtain ⟨y0, y1, y2, y3, y4, y5, y6, y7, y8, y9⟩ := hrs.out.keep hbel hb2
      have KK := Lib.hid (K4.out z1 z2)
      rcases r4 with _ | _
      · clear q1 q2 q3 q4 q5
        go_wp2_with fail
        refine (KK.out _ (by exact (by repeat (first | exact Below.refl _ _ | assumption | refine bel_drew ?_ | refine bel_drewN ?_ _ | refine bel_alloc ?_ _ | refine bel_set ?_ (by first | (dsimp only; omega) | (simp; done) | (simp; omega)) _ | refine bel_trans ?_ (by assumption))))).mono ?_
        rintro e w2 ⟨rfl, h2⟩
        go_wp2_with fail
        go_roundw
        case rel => exact ⟨4, by omega, by go_num, fun _ => z1, fun _ => z2, fun _ => z3, fun _ => rfl, fun h => absurd h (by omega), (by repeat (first | exact Below.refl _ _ | assumption | refine bel_drew ?_ | refine bel_drewN ?_ _ | refine bel_alloc ?_ _ | refine bel_set ?_ (by first | (dsimp only; omega) | (simp; done) | (simp; omega)) _ | refine bel_trans ?_ (by assumption)))⟩
        case measure => simp [intOf]
      · have HE : Hid ((4 : Int) = Y) := Lib.hid (by rw [ew.out, z1, z2, z3]; rfl)
        clear q1 q2 q3 q4 q5
        go_wp2_with fail
        refine (KK.out _ (by exact (by repeat (first | exact Below.refl _ _ | assumption | refine bel_drew ?_ | refine bel_drewN ?_ _ | refine bel_alloc ?_ _ | refine bel_set ?_ (by first | (dsimp only; omega) | (simp; done) | (simp; omega)) _ | refine bel_trans ?_ (by assumption))))).mono ?_
        rintro e w2 ⟨rfl, h2⟩
        have x0 : w2.cell? ⟨wr.heap.size, 0, none⟩ = some (.int .i64 4) := (h2.cell (p := ⟨wr.heap.size, 0, none⟩) (by simp)).trans (by simp [go_sem])
        go_wp2_with fail
        go_ret
        exact ⟨ret_int HE.out, (by repeat (first | exact Below.refl _ _ | assumption | refine bel_drew ?_ | refine bel_drewN ?_ _ | refine bel_alloc ?_ _ | refine bel_set ?_ (by first | (dsimp only; omega) | (simp; done) | (simp; omega)) _ | refine bel_trans ?_ (by assumption)))⟩
    · have z1 := q1 (by omega)
      have z2 := q2 (by omega)
      have z3 := q3 (by omega)
      have z4 := q4 (by omega)
      obtain ⟨y0, y1, y2, y3, y4, y5, y6, y7, y8, y9⟩ := hrs.out.keep hbel hb2
      have KK := Lib.hid (K5.out z1 z2)
      rcases r5 with _ | _
      · clear q1 q2 q3 q4 q5
        go_wp2_with fail
        refine (KK.out _ (by exact (by repeat (first | exact Below.refl _ _ | assumption | refine bel_drew ?_ | refine bel_drewN ?_ _ | refine bel_alloc ?_ _ | refine bel_set ?_ (by first | (dsimp only; omega) | (simp; done) | (simp; omega)) _ | refine bel_trans ?_ (by assumption))))).mono ?_
        rintro e w2 ⟨rfl, h2⟩
        go_wp2_with fail
        go_roundw
        case rel => exact ⟨5, by omega, by go_num, fun _ => z1, fun _ => z2, fun _ => z3, fun _ => z4, fun _ => rfl, (by repeat (first | exact Below.refl _ _ | assumption | refine bel_drew ?_ | refine bel_drewN ?_ _ | refine bel_alloc ?_ _ | refine bel_set ?_ (by first | (dsimp only; omega) | (simp; done) | (simp; omega)) _ | refine bel_trans ?_ (by assumption)))⟩
        case measure => simp [intOf]
      · have HE : Hid ((5 : Int) = Y) := Lib.hid (by rw [ew.out, z1, z2, z3, z4]; rfl)
        clear q1 q2 q3 q4 q5
        go_wp2_with fail
        refine (KK.out _ (by exact (by repeat (first | exact Below.refl _ _ | assumption | refine bel_drew ?_ | refine bel_drewN ?_ _ | refine bel_alloc ?_ _ | refine bel_set ?_ (by first | (dsimp only; omega) | (simp; done) | (simp; omega)) _ | refine bel_trans ?_ (by assumption))))).mono ?_
        rintro e w2 ⟨rfl, h2⟩
        have x0 : w2.cell? ⟨wr.heap.size, 0, none⟩ = some (.int .i64 5) := (h2.cell (p := ⟨wr.heap.size, 0, none⟩) (by simp)).trans (by simp [go_sem])
        go_wp2_with fail
        go_ret
        exact ⟨ret_int HE.out, (by repeat (first | exact Below.refl _ _ | assumption | refine bel_drew ?_ | refine bel_drewN ?_ _ | refine bel_alloc ?_ _ | refine bel_set ?_ (by first | (dsimp only; omega) | (simp; done) | (simp; omega)) _ | refine bel_trans ?_ (by assumption)))⟩
    · obtain ⟨z1, z2, z3, z4, z5⟩ : r1 = false ∧ r2 = false ∧ r3 = false ∧ r4 = false ∧ r5 = false := ⟨q1 (by omega), q2 (by omega), q3 (by omega), q4 (by omega), q5 (by omega)⟩
      have HE : Hid ((0 : Int) = Y) := Lib.hid (by rw [ew.out, z1, z2, z3, z4, z5]; rfl)
      clear q1 q2 q3 q4 q5
      go_wp2_with fail
      go_ret
      exact ⟨ret_int HE.out, (by repeat (first | exact Below.refl _ _ | assumption | refine bel_drew ?_ | refine bel_drewN ?_ _ | refine bel_alloc ?_ _ | refine bel_set ?_ (by first | (dsimp only; omega) | (simp; done) | (simp; omega)) _ | refine bel_trans ?_ (by assumption)))⟩


theorem skip_May {TA MA : Option Addr} {tn mn : Nat} {ts : List SK.Tick} {ms : List PO.Mem} (tc mc : Nat) (f wt a : Int) {w : World} (h : TickAt w TA tn ts) (hm : MemAt w MA mn ms) (hn : mn ≤ 1000) (bf : -9223372036854775808 ≤ f ∧ f ≤ 9223372036854775807) (bw : -9223372036854775808 ≤ wt ∧ wt ≤ 9223372036854775807) (htc : tn ≤ tc) (hcm : tc ≤ 9223372036854775807) :
    Calls Try.prog 33 #[.slice TA tn tc, .int .i64 a, .int .i64 f, .int .i64 wt, .slice MA mn mc] w fun e w' => e = .returned (.bool (decide (SK.why ts ms f wt a = 0))) ∧ Below w.heap.size w w' := by
  have K := Lib.hid (skip_Why tc mc f wt a h hm hn bf bw htc hcm)
  generalize SK.why ts ms f wt a = Y at *
  clear h hm
  go_enter Try.func33, Try.ntmps33
  go_wp2_with fail
  refine K.out.mono ?_
  rintro e w1 ⟨rfl, h1⟩
  go_wp2_with fail
  exact bodyPost_ret (v := .bool (Y == 0)) (by simp [results, Try.results33, go_sem]) rfl ⟨ret_bool (by rw [Bool.eq_iff_iff]; simp), (by repeat (first | exact Below.refl _ _ | assumption | refine bel_drew ?_ | refine bel_drewN ?_ _ | refine bel_alloc ?_ _ | refine bel_set ?_ (by first | (dsimp only; omega) | (simp; done) | (simp; omega)) _ | refine bel_trans ?_ (by assumption)))⟩

def SNextRel (w : World) (ts : List SK.Tick) (ms : List PO.Mem) (f wt : Int) (n : Nat) (i : Value) (wr : World) : Prop :=
  ∃ k : Nat, k ≤ n ∧ i = .int .i64 k ∧ (∀ j : Nat, j < k → SK.why ts ms f wt (j : Int) ≠ 0) ∧ Below w.heap.size w wr
set_option maxHeartbeats 4000000 in
theorem skip_Next {TA MA : Option Addr} {tn mn : Nat} {ts : List SK.Tick} {ms : List PO.Mem} (tc mc : Nat) (f wt : Int) {w : World} (h : TickAt w TA tn ts) (hm : MemAt w MA mn ms) (hn : mn ≤ 1000) (bf : -9223372036854775808 ≤ f ∧ f ≤ 9223372036854775807) (bw : -9223372036854775808 ≤ wt ∧ wt ≤ 9223372036854775807) (htc : tn ≤ tc) (hcm : tc ≤ 9223372036854775807) :
    Calls Try.prog 34 #[.slice TA tn tc, .int .i64 f, .int .i64 wt, .slice MA mn mc] w fun e w' => e = .returned (.int .i64 (SK.next ts ms f wt)) ∧ Below w.heap.size w w' := by
  obtain ⟨Y, hY⟩ : ∃ Y, SK.next ts ms f wt = Y := ⟨_, rfl⟩
  rw [hY]
  have HY := Lib.hid hY
  have HX := Lib.hid h.1
  have HN := h.2.1
  have K : Hid (∀ a W, Below w.heap.size w W → Calls Try.prog 33 #[.slice TA tn tc, .int .i64 a, .int .i64 f, .int .i64 wt, .slice MA mn mc] W fun e w' => e = .returned (.bool (decide (SK.why ts ms f wt a = 0))) ∧ Below W.heap.size W w') := Lib.hid (fun a W hW => skip_May tc mc f wt a (h.keep hW) (hm.keep hW) hn bf bw htc hcm)
  clear hY h hm
  go_enter Try.func34, Try.ntmps34
  go_wp2_with fail
  go_loopw [12] (fun i wr => SNextRel w ts ms f wt tn i wr) (fun i _ => tn - (intOf i).toNat)
  case atStart => exact ⟨0, Nat.zero_le _, rfl, fun j hj => absurd hj (by omega), Below.refl _ _⟩
  case round =>
    obtain ⟨k, hk, rfl, hnot, hbel⟩ := hrel
    have HNOT := Lib.hid hnot
    clear hnot
    have j1 : (0 : Int) ≤ (k : Int) := by omega
    by_cases hlt : (k : Int) < tn
    · have KP := Lib.hid (K.out (k : Int) wr hbel)
      by_cases hq : SK.why ts ms f wt (k : Int) = 0
      · rw [decide_eq_true hq] at KP
        have HE : Hid ((k : Int) = Y) := Lib.hid ((SK.next_at (by rw [HX.out]; omega) HNOT.out hq).symm.trans HY.out)
        clear hq
        go_wp2_with fail
        refine KP.out.mono ?_
        rintro e w1 ⟨rfl, h1⟩
        go_wp2_with fail
        go_ret
        exact ⟨ret_int HE.out, (by repeat (first | exact Below.refl _ _ | assumption | refine bel_drew ?_ | refine bel_drewN ?_ _ | refine bel_alloc ?_ _ | refine bel_set ?_ (by first | (dsimp only; omega) | (simp; done) | (simp; omega)) _ | refine bel_trans ?_ (by assumption)))⟩
      · rw [decide_eq_false hq] at KP
        have HE : Hid (∀ j : Nat, j < k + 1 → SK.why ts ms f wt (j : Int) ≠ 0) := Lib.hid (fun j hj => by
          rcases Nat.lt_or_ge j k with h1 | h1
          · exact HNOT.out j h1
          · obtain rfl : j = k := by omega
            exact hq)
        clear hq
        go_wp2_with fail
        refine KP.out.mono ?_
        rintro e w1 ⟨rfl, h1⟩
        go_wp2_with fail
        go_roundw
        case rel => exact ⟨k + 1, by omega, by go_num, HE.out, (by repeat (first | exact Below.refl _ _ | assumption | refine bel_drew ?_ | refine bel_drewN ?_ _ | refine bel_alloc ?_ _ | refine bel_set ?_ (by first | (dsimp only; omega) | (simp; done) | (simp; omega)) _ | refine bel_trans ?_ (by assumption)))⟩
        case measure => simp [intOf]; omega
    · have HE : Hid ((-1 : Int) = Y) := Lib.hid ((SK.next_none (fun j hj => HNOT.out j (by rw [HX.out] at hj; omega))).symm.trans HY.out)
      go_wp2_with fail
      go_ret
      exact ⟨ret_int HE.out, (by repeat (first | exact Below.refl _ _ | assumption | refine bel_drew ?_ | refine bel_drewN ?_ _ | refine bel_alloc ?_ _ | refine bel_set ?_ (by first | (dsimp only; omega) | (simp; done) | (simp; omega)) _ | refine bel_trans ?_ (by assumption)))⟩

end Go.Proofs.Ythmjbfocpdiikaa
