/-
  Layer 34 (skip): the walk of SkipOlder.
-/
import Derived.Test.YthmjbfocpdiikaaPlainSkip2
import Derived.Test.YthmjbfocpdiikaaSkipF
namespace Go.Proofs.Ythmjbfocpdiikaa
open Go.RowKit
set_option linter.unusedVariables false
set_option linter.unusedSimpArgs false
attribute [local go_sem] drewN_alloc drewN_setCell

theorem law34_long_SkipOlder {TA MA : Option Addr} {tn mn : Nat} (tc mc : Nat) (f wt : Int) (w : World) (hn : 12 < tn ∨ 12 < mn) :
    Calls Try.prog 8 #[.agg #[.slice TA tn tc, .int .i64 f, .int .i64 wt, .slice MA mn mc]] w fun e w' => e = .returned (.bool true) ∧ Below w.heap.size w w' := by
  have K := Lib.hid law34_works
  rcases Nat.lt_or_ge 12 tn with h1 | h1
  · have g1 : decide ((12 : Int) < (tn : Int)) = true := decide_eq_true (by omega)
    go_enter Try.func8, Try.ntmps8
    go_wp2_with fail
    try (go_quiet (fail); go_wp2_with fail)
    refine (K.out _).mono ?_
    rintro e w1 ⟨rfl, h1⟩
    go_wp2_with fail
    exact bodyPost_ret (v := .bool true) (by simp [results, Try.results8, go_sem]) rfl ⟨rfl, (by repeat (first | exact Below.refl _ _ | assumption | refine bel_drew ?_ | refine bel_drewN ?_ _ | refine bel_alloc ?_ _ | refine bel_set ?_ (by first | (dsimp only; omega) | (simp; done) | (simp; omega)) _ | refine bel_trans ?_ (by assumption)))⟩
  · have g1 : decide ((12 : Int) < (tn : Int)) = false := decide_eq_false (by omega)
    have g2 : decide ((12 : Int) < (mn : Int)) = true := decide_eq_true (by omega)
    go_enter Try.func8, Try.ntmps8
    go_wp2_with fail
    try (go_quiet (fail); go_wp2_with fail)
    refine (K.out _).mono ?_
    rintro e w1 ⟨rfl, h1⟩
    go_wp2_with fail
    exact bodyPost_ret (v := .bool true) (by simp [results, Try.results8, go_sem]) rfl ⟨rfl, (by repeat (first | exact Below.refl _ _ | assumption | refine bel_drew ?_ | refine bel_drewN ?_ _ | refine bel_alloc ?_ _ | refine bel_set ?_ (by first | (dsimp only; omega) | (simp; done) | (simp; omega)) _ | refine bel_trans ?_ (by assumption)))⟩

namespace SK
theorem next_cases {ts : List Tick} {ms : List PO.Mem} {f w : Int} : (next ts ms f w = -1 ∧ ∀ j : Nat, j < ts.length → why ts ms f w (j : Int) ≠ 0) ∨
    ∃ k : Nat, next ts ms f w = (k : Int) ∧ k < ts.length ∧ why ts ms f w (k : Int) = 0 ∧ ∀ j : Nat, j < k → why ts ms f w (j : Int) ≠ 0 := by
  unfold next
  rcases e : (List.range ts.length).findIdx? (fun i : Nat => decide (why ts ms f w (i : Int) = 0)) with _ | i
  · left
    rw [List.findIdx?_eq_none_iff] at e
    refine ⟨rfl, fun j hj h => ?_⟩
    have := e j (by simpa using hj)
    simp [h] at this
  · right
    rw [List.findIdx?_eq_some_iff_getElem] at e
    obtain ⟨h1, h2, h3⟩ := e
    simp only [List.length_range] at h1
    refine ⟨i, rfl, h1, by simpa using h2, fun j hj h => ?_⟩
    have := h3 j hj
    simp [h] at this
theorem why_old {ts : List Tick} {ms : List PO.Mem} {f w : Int} {k : Nat} (hk : k < ts.length) (h : why ts ms f w (k : Int) = 0) (i : Nat) (hi : i < k) : cl ts i ≠ cl ts k := by
  intro e
  have := ahead_yes hk hi e
  have a1 : ¬ ((k : Int) < 0 ∨ (ts.length : Int) ≤ (k : Int)) := by omega
  have e1 : ((k : Int)).toNat = k := by omega
  unfold why at h
  rw [if_neg a1, e1] at h
  by_cases a2 : member ms (cl ts k) < 0
  · rw [if_pos a2] at h; exact absurd h (by decide)
  · rw [if_neg a2, if_pos this] at h; exact absurd h (by decide)
end SK
def OldRel (V : World) (n : Nat) (i : Value) (wr : World) : Prop := ∃ j : Nat, j ≤ n ∧ i = .int .i64 j ∧ Below V.heap.size V wr

set_option maxRecDepth 100000 in
set_option maxHeartbeats 16000000 in
theorem law34_SkipOlder_some {TA MA : Option Addr} {tn mn : Nat} {ts : List SK.Tick} {ms : List PO.Mem} (tc mc : Nat) (f wt : Int) {w : World} (h : TickAt w TA tn ts) (hm : MemAt w MA mn ms) (bf : -9223372036854775808 ≤ f ∧ f ≤ 9223372036854775807) (bw : -9223372036854775808 ≤ wt ∧ wt ≤ 9223372036854775807) (htc : tn ≤ tc) (hcm : tc ≤ 9223372036854775807) (h1 : tn ≤ 12) (h2 : mn ≤ 12) :
    Calls Try.prog 8 #[.agg #[.slice TA tn tc, .int .i64 f, .int .i64 wt, .slice MA mn mc]] w fun e w' => e = .returned (.bool true) ∧ Below w.heap.size w w' := by
  obtain ⟨p, hp⟩ : ∃ p, w.heap.size = p := ⟨_, rfl⟩
  obtain ⟨V, hV⟩ : ∃ V, w.alloc (.cells #[.slice TA tn tc, .int .i64 f, .int .i64 wt, .slice MA mn mc] 45) = V := ⟨_, rfl⟩
  have hB : Below w.heap.size w V := by rw [← hV]; exact (by repeat (first | exact Below.refl _ _ | assumption | refine bel_drew ?_ | refine bel_drewN ?_ _ | refine bel_alloc ?_ _ | refine bel_set ?_ (by first | (dsimp only; omega) | (simp; done) | (simp; omega)) _ | refine bel_trans ?_ (by assumption)))
  have sV : p < V.heap.size := by rw [← hV, ← hp]; simp
  have hS : Hid (∀ W : World, Below V.heap.size V W → W.cell? ⟨p, 0, none⟩ = some (.slice TA tn tc) ∧ W.cell? ⟨p, 1, none⟩ = some (.int .i64 f) ∧ W.cell? ⟨p, 2, none⟩ = some (.int .i64 wt) ∧ W.cell? ⟨p, 3, none⟩ = some (.slice MA mn mc)) := Lib.hid (fun W hW =>
    ⟨(hW.cell sV).trans (by rw [← hV, ← hp]; simp [go_sem]), (hW.cell sV).trans (by rw [← hV, ← hp]; simp [go_sem]), (hW.cell sV).trans (by rw [← hV, ← hp]; simp [go_sem]), (hW.cell sV).trans (by rw [← hV, ← hp]; simp [go_sem])⟩)
  have hT := h.keep hB
  have hM := hm.keep hB
  have K3 : Hid (∀ a W, Below V.heap.size V W → Calls Try.prog 33 #[.slice TA tn tc, .int .i64 a, .int .i64 f, .int .i64 wt, .slice MA mn mc] W fun e w' => e = .returned (.bool (decide (SK.why ts ms f wt a = 0))) ∧ Below W.heap.size W w') := Lib.hid (fun a W hW => skip_May tc mc f wt a (hT.keep hW) (hM.keep hW) (by omega) bf bw htc hcm)
  have K4 : Hid (∀ W, Below V.heap.size V W → Calls Try.prog 34 #[.slice TA tn tc, .int .i64 f, .int .i64 wt, .slice MA mn mc] W fun e w' => e = .returned (.int .i64 (SK.next ts ms f wt)) ∧ Below W.heap.size W w') := Lib.hid (fun W hW => skip_Next tc mc f wt (hT.keep hW) (hM.keep hW) (by omega) bf bw htc hcm)
  have g1 : decide ((12 : Int) < (tn : Int)) = false := decide_eq_false (by omega)
  have g2 : decide ((12 : Int) < (mn : Int)) = false := decide_eq_false (by omega)
  have HT := Lib.hid hT.2.2.2
  have HTL := h.1
  have HV := Lib.hid hV
  have HP := Lib.hid hp
  have HB := Lib.hid hB
  rcases SK.next_cases (ts := ts) (ms := ms) (f := f) (w := wt) with ⟨en, hn⟩ | ⟨k, en, hk, hw, hn⟩
  · rw [en] at K4
    have HN := Lib.hid hn
    have r0 : decide ((-1 : Int) < (-1 : Int)) = false := by decide
    have r1 : decide ((tn : Int) ≤ (-1 : Int)) = false := decide_eq_false (by omega)
    have r2 : ¬ (tn : Int) ≤ -1 := by omega
    clear hT hM h hm hV hp hB hn en
    go_enter Try.func8, Try.ntmps8
    go_wp2_with fail
    rw [HV.out, HP.out]
    refine (K4.out _ (Below.refl _ _)).mono ?_
    rintro e w1 ⟨rfl, d1⟩
    have s1 : Below V.heap.size V w1 := by exact (by repeat (first | exact Below.refl _ _ | assumption | refine bel_drew ?_ | refine bel_trans ?_ (by assumption)))
    obtain ⟨c0, c1, c2, c3⟩ := hS.out w1 s1
    go_wp2_with fail
    clear c0 c1 c2 c3
    go_loopw [4] (fun i wr => OldRel V tn i wr) (fun i _ => tn - (intOf i).toNat)
    case atStart => exact ⟨0, Nat.zero_le _, rfl, by exact (by repeat (first | exact Below.refl _ _ | assumption | refine bel_drew ?_ | refine bel_drewN ?_ _ | refine bel_trans ?_ (by assumption)))⟩
    case round =>
      obtain ⟨j, hj, rfl, hbel⟩ := hrel
      obtain ⟨c0, c1, c2, c3⟩ := hS.out wr hbel
      have j1 : (0 : Int) ≤ (j : Int) := by omega
      by_cases hlt : (j : Int) < tn
      · have j2 : (j : Int) < (tn : Int) := hlt
        have hq : decide (SK.why ts ms f wt (j : Int) = 0) = false := decide_eq_false (HN.out j (by omega))
        have q0 : decide ((-1 : Int) < 0) = true := by decide
        have q1 : decide ((0 : Int) ≤ (-1 : Int)) = false := by decide
        have q2 : ((j : Int) == (-1 : Int)) = false := by simp <;> omega
        have q3 : ¬ (j : Int) = (-1 : Int) := by omega
        go_wp2_with fail
        refine (K3.out _ _ (by exact (by repeat (first | exact Below.refl _ _ | assumption | refine bel_drew ?_ | refine bel_trans ?_ (by assumption))))).mono ?_
        rintro e u1 ⟨rfl, d2⟩
        rw [hq]
        have t2 : Below V.heap.size V u1 := by exact (by repeat (first | exact Below.refl _ _ | assumption | refine bel_drew ?_ | refine bel_trans ?_ (by assumption)))
        clear c0 c1 c2 c3
        obtain ⟨c0, c1, c2, c3⟩ := hS.out u1 t2
        go_wp2_with fail
        go_quiet (fail)
        go_wp2_with fail
        go_roundw
        case rel => exact ⟨j + 1, by omega, by go_num, by exact (by repeat (first | exact Below.refl _ _ | assumption | refine bel_drew ?_ | refine bel_drewN ?_ _ | refine bel_trans ?_ (by assumption)))⟩
        case measure => simp [intOf]; omega
      · go_wp2_with fail
        refine (law34_works _).mono ?_
        rintro e w5 ⟨rfl, d5⟩
        go_wp2_with fail
        exact bodyPost_ret (v := .bool true) (by simp [results, Try.results8, go_sem]) rfl ⟨rfl, bel_trans' HB.out (by exact (by repeat (first | exact Below.refl _ _ | assumption | refine bel_drew ?_ | refine bel_trans ?_ (by assumption)))) HB.out.size⟩
  
  · rw [en] at K4
    have HN := Lib.hid hn
    have HO := Lib.hid (SK.why_old hk hw)
    have HK := Lib.hid hw
    rw [HTL] at hk
    have r0 : decide ((k : Int) < (-1 : Int)) = false := decide_eq_false (by omega)
    have r1 : decide ((tn : Int) ≤ (k : Int)) = false := decide_eq_false (by omega)
    have r2 : ¬ (tn : Int) ≤ (k : Int) := by omega
    have r4 : decide (tn ≤ k) = false := decide_eq_false (by omega)
    have r3 : ¬ (k : Int) < -1 := by omega
    clear hT hM h hm hV hp hB hn en hw
    go_enter Try.func8, Try.ntmps8
    go_wp2_with fail
    rw [HV.out, HP.out]
    refine (K4.out _ (Below.refl _ _)).mono ?_
    rintro e w1 ⟨rfl, d1⟩
    have s1 : Below V.heap.size V w1 := by exact (by repeat (first | exact Below.refl _ _ | assumption | refine bel_drew ?_ | refine bel_trans ?_ (by assumption)))
    obtain ⟨c0, c1, c2, c3⟩ := hS.out w1 s1
    go_wp2_with fail
    clear c0 c1 c2 c3
    go_loopw [4] (fun i wr => OldRel V tn i wr) (fun i _ => tn - (intOf i).toNat)
    case atStart => exact ⟨0, Nat.zero_le _, rfl, by exact (by repeat (first | exact Below.refl _ _ | assumption | refine bel_drew ?_ | refine bel_drewN ?_ _ | refine bel_trans ?_ (by assumption)))⟩
    case round =>
      obtain ⟨j, hj, rfl, hbel⟩ := hrel
      obtain ⟨c0, c1, c2, c3⟩ := hS.out wr hbel
      have j1 : (0 : Int) ≤ (j : Int) := by omega
      by_cases hlt : (j : Int) < tn
      · have j2 : (j : Int) < (tn : Int) := hlt
        rcases Nat.lt_trichotomy j k with hjk | hjk | hjk
        · have q4 : decide ((j : Int) < (k : Int)) = true := decide_eq_true (by omega)
          have p4 : (j : Int) < (k : Int) := by omega
          have q2 : ((j : Int) == (k : Int)) = false := by simp; omega
          have p2 : ¬ (j : Int) = (k : Int) := by omega
          have p5 : (k : Int) < (tn : Int) := by omega
          have hq : decide (SK.why ts ms f wt (j : Int) = 0) = false := decide_eq_false (HN.out j (by omega))
          have q0 : decide ((k : Int) < 0) = false := decide_eq_false (by omega)
          have q1 : decide ((0 : Int) ≤ (k : Int)) = true := decide_eq_true (by omega)
          have p0 : ¬ (k : Int) < 0 := by omega
          have p1 : (0 : Int) ≤ (k : Int) := by omega
          go_wp2_with fail
          refine (K3.out _ _ (by exact (by repeat (first | exact Below.refl _ _ | assumption | refine bel_drew ?_ | refine bel_trans ?_ (by assumption))))).mono ?_
          rintro e u1 ⟨rfl, d2⟩
          rw [hq]
          have t2 : Below V.heap.size V u1 := by exact (by repeat (first | exact Below.refl _ _ | assumption | refine bel_drew ?_ | refine bel_trans ?_ (by assumption)))
          clear c0 c1 c2 c3
          obtain ⟨c0, c1, c2, c3⟩ := hS.out u1 t2
          go_wp2_with fail
          obtain ⟨b0, off, rfl, hb0, hct⟩ := HT.out (by omega)
          obtain ⟨x0, x1, x2, x3, x4⟩ := (hct j (by omega)).keep t2 hb0
          obtain ⟨y0, y1, y2, y3, y4⟩ := (hct k (by omega)).keep t2 hb0
          have hne : ¬ (ts.getD j SK.t0).2.1 = (ts.getD k SK.t0).2.1 := HO.out j (by omega)
          generalize ts.getD j SK.t0 = t at *
          generalize ts.getD k SK.t0 = s at *
          have g9 : (t.2.1 == s.2.1) = false := by simpa using hne
          clear hct x0 x2 x3 x4 y0 y2 y3 y4
          go_quiet (fail)
          go_wp2_with fail
          go_roundw
          case rel => exact ⟨j + 1, by omega, by go_num, by exact (by repeat (first | exact Below.refl _ _ | assumption | refine bel_drew ?_ | refine bel_drewN ?_ _ | refine bel_trans ?_ (by assumption)))⟩
          case measure => simp [intOf]; omega
        · subst hjk
          have q4 : decide ((j : Int) < (j : Int)) = false := decide_eq_false (by omega)
          have p4 : ¬ (j : Int) < (j : Int) := by omega
          have hq : decide (SK.why ts ms f wt (j : Int) = 0) = true := decide_eq_true HK.out
          have q0 : decide ((j : Int) < 0) = false := decide_eq_false (by omega)
          have q1 : decide ((0 : Int) ≤ (j : Int)) = true := decide_eq_true (by omega)
          have p0 : ¬ (j : Int) < 0 := by omega
          have p1 : (0 : Int) ≤ (j : Int) := by omega
          go_wp2_with fail
          refine (K3.out _ _ (by exact (by repeat (first | exact Below.refl _ _ | assumption | refine bel_drew ?_ | refine bel_trans ?_ (by assumption))))).mono ?_
          rintro e u1 ⟨rfl, d2⟩
          rw [hq]
          have t2 : Below V.heap.size V u1 := by exact (by repeat (first | exact Below.refl _ _ | assumption | refine bel_drew ?_ | refine bel_trans ?_ (by assumption)))
          clear c0 c1 c2 c3
          obtain ⟨c0, c1, c2, c3⟩ := hS.out u1 t2
          go_wp2_with fail
          go_quiet (fail)
          go_wp2_with fail
          go_roundw
          case rel => exact ⟨j + 1, by omega, by go_num, by exact (by repeat (first | exact Below.refl _ _ | assumption | refine bel_drew ?_ | refine bel_drewN ?_ _ | refine bel_trans ?_ (by assumption)))⟩
          case measure => simp [intOf]; omega
        · have q4 : decide ((j : Int) < (k : Int)) = false := decide_eq_false (by omega)
          have p4 : ¬ (j : Int) < (k : Int) := by omega
          have q2 : ((j : Int) == (k : Int)) = false := by simp; omega
          have p2 : ¬ (j : Int) = (k : Int) := by omega
          obtain ⟨q, hq⟩ : ∃ q, decide (SK.why ts ms f wt (j : Int) = 0) = q := ⟨_, rfl⟩
          have q0 : decide ((k : Int) < 0) = false := decide_eq_false (by omega)
          have q1 : decide ((0 : Int) ≤ (k : Int)) = true := decide_eq_true (by omega)
          have p0 : ¬ (k : Int) < 0 := by omega
          have p1 : (0 : Int) ≤ (k : Int) := by omega
          go_wp2_with fail
          refine (K3.out _ _ (by exact (by repeat (first | exact Below.refl _ _ | assumption | refine bel_drew ?_ | refine bel_trans ?_ (by assumption))))).mono ?_
          rintro e u1 ⟨rfl, d2⟩
          rw [hq]
          have t2 : Below V.heap.size V u1 := by exact (by repeat (first | exact Below.refl _ _ | assumption | refine bel_drew ?_ | refine bel_trans ?_ (by assumption)))
          clear c0 c1 c2 c3
          obtain ⟨c0, c1, c2, c3⟩ := hS.out u1 t2
          go_wp2_with fail
          go_quiet (fail)
          go_wp2_with fail
          go_roundw
          case rel => exact ⟨j + 1, by omega, by go_num, by exact (by repeat (first | exact Below.refl _ _ | assumption | refine bel_drew ?_ | refine bel_drewN ?_ _ | refine bel_trans ?_ (by assumption)))⟩
          case measure => simp [intOf]; omega
      · go_wp2_with fail
        refine (law34_works _).mono ?_
        rintro e w5 ⟨rfl, d5⟩
        go_wp2_with fail
        exact bodyPost_ret (v := .bool true) (by simp [results, Try.results8, go_sem]) rfl ⟨rfl, bel_trans' HB.out (by exact (by repeat (first | exact Below.refl _ _ | assumption | refine bel_drew ?_ | refine bel_trans ?_ (by assumption)))) HB.out.size⟩
  
theorem law34_SkipOlder {TA MA : Option Addr} {tn mn : Nat} {ts : List SK.Tick} {ms : List PO.Mem} (tc mc : Nat) (f wt : Int) {w : World} (h : TickAt w TA tn ts) (hm : MemAt w MA mn ms) (bf : -9223372036854775808 ≤ f ∧ f ≤ 9223372036854775807) (bw : -9223372036854775808 ≤ wt ∧ wt ≤ 9223372036854775807) (htc : tn ≤ tc) (hcm : tc ≤ 9223372036854775807) :
    Calls Try.prog 8 #[.agg #[.slice TA tn tc, .int .i64 f, .int .i64 wt, .slice MA mn mc]] w fun e w' => e = .returned (.bool true) ∧ Below w.heap.size w w' := by
  rcases Nat.lt_or_ge 12 tn with h1 | h1
  · exact law34_long_SkipOlder tc mc f wt w (.inl h1)
  · rcases Nat.lt_or_ge 12 mn with h2 | h2
    · exact law34_long_SkipOlder tc mc f wt w (.inr h2)
    · exact law34_SkipOlder_some tc mc f wt h hm bf bw htc hcm h1 h2
end Go.Proofs.Ythmjbfocpdiikaa
