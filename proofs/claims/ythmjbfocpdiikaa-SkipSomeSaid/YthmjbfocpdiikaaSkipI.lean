/-
  Layer 34 (skip): the walk of SkipSome.
-/
import Derived.Test.YthmjbfocpdiikaaPlainSkip2
import Derived.Test.YthmjbfocpdiikaaSkipF
namespace Go.Proofs.Ythmjbfocpdiikaa
open Go.RowKit
set_option linter.unusedVariables false
set_option linter.unusedSimpArgs false
attribute [local go_sem] drewN_alloc drewN_setCell

theorem law34_long_SkipSome {TA MA : Option Addr} {tn mn : Nat} (tc mc : Nat) (f wt : Int) (w : World) (hn : 12 < tn ∨ 12 < mn) :
    Calls Try.prog 9 #[.agg #[.slice TA tn tc, .int .i64 f, .int .i64 wt, .slice MA mn mc]] w fun e w' => e = .returned (.bool true) ∧ Below w.heap.size w w' := by
  have K := Lib.hid law34_works
  rcases Nat.lt_or_ge 12 tn with h1 | h1
  · have g1 : decide ((12 : Int) < (tn : Int)) = true := decide_eq_true (by omega)
    go_enter Try.func9, Try.ntmps9
    go_wp2_with fail
    try (go_quiet (fail); go_wp2_with fail)
    refine (K.out _).mono ?_
    rintro e w1 ⟨rfl, h1⟩
    go_wp2_with fail
    exact bodyPost_ret (v := .bool true) (by simp [results, Try.results9, go_sem]) rfl ⟨rfl, (by repeat (first | exact Below.refl _ _ | assumption | refine bel_drew ?_ | refine bel_drewN ?_ _ | refine bel_alloc ?_ _ | refine bel_set ?_ (by first | (dsimp only; omega) | (simp; done) | (simp; omega)) _ | refine bel_trans ?_ (by assumption)))⟩
  · have g1 : decide ((12 : Int) < (tn : Int)) = false := decide_eq_false (by omega)
    have g2 : decide ((12 : Int) < (mn : Int)) = true := decide_eq_true (by omega)
    go_enter Try.func9, Try.ntmps9
    go_wp2_with fail
    try (go_quiet (fail); go_wp2_with fail)
    refine (K.out _).mono ?_
    rintro e w1 ⟨rfl, h1⟩
    go_wp2_with fail
    exact bodyPost_ret (v := .bool true) (by simp [results, Try.results9, go_sem]) rfl ⟨rfl, (by repeat (first | exact Below.refl _ _ | assumption | refine bel_drew ?_ | refine bel_drewN ?_ _ | refine bel_alloc ?_ _ | refine bel_set ?_ (by first | (dsimp only; omega) | (simp; done) | (simp; omega)) _ | refine bel_trans ?_ (by assumption)))⟩

set_option maxRecDepth 100000 in
set_option maxHeartbeats 16000000 in
theorem law34_SkipSome_some {TA MA : Option Addr} {tn mn : Nat} {ts : List SK.Tick} {ms : List PO.Mem} (tc mc : Nat) (f wt : Int) {w : World} (h : TickAt w TA tn ts) (hm : MemAt w MA mn ms) (bf : -9223372036854775808 ≤ f ∧ f ≤ 9223372036854775807) (bw : -9223372036854775808 ≤ wt ∧ wt ≤ 9223372036854775807) (htc : tn ≤ tc) (hcm : tc ≤ 9223372036854775807) (h1 : tn ≤ 12) (h2 : mn ≤ 12) :
    Calls Try.prog 9 #[.agg #[.slice TA tn tc, .int .i64 f, .int .i64 wt, .slice MA mn mc]] w fun e w' => e = .returned (.bool true) ∧ Below w.heap.size w w' := by
  obtain ⟨p, hp⟩ : ∃ p, w.heap.size = p := ⟨_, rfl⟩
  obtain ⟨V, hV⟩ : ∃ V, w.alloc (.cells #[.slice TA tn tc, .int .i64 f, .int .i64 wt, .slice MA mn mc] 45) = V := ⟨_, rfl⟩
  have hB : Below w.heap.size w V := by rw [← hV]; exact (by repeat (first | exact Below.refl _ _ | assumption | refine bel_drew ?_ | refine bel_drewN ?_ _ | refine bel_alloc ?_ _ | refine bel_set ?_ (by first | (dsimp only; omega) | (simp; done) | (simp; omega)) _ | refine bel_trans ?_ (by assumption)))
  have sV : p < V.heap.size := by rw [← hV, ← hp]; simp
  have hS : Hid (∀ W : World, Below V.heap.size V W → W.cell? ⟨p, 0, none⟩ = some (.slice TA tn tc) ∧ W.cell? ⟨p, 1, none⟩ = some (.int .i64 f) ∧ W.cell? ⟨p, 2, none⟩ = some (.int .i64 wt) ∧ W.cell? ⟨p, 3, none⟩ = some (.slice MA mn mc)) := Lib.hid (fun W hW =>
    ⟨(hW.cell sV).trans (by rw [← hV, ← hp]; simp [go_sem]), (hW.cell sV).trans (by rw [← hV, ← hp]; simp [go_sem]), (hW.cell sV).trans (by rw [← hV, ← hp]; simp [go_sem]), (hW.cell sV).trans (by rw [← hV, ← hp]; simp [go_sem])⟩)
  have hT := h.keep hB
  have hM := hm.keep hB
  have K1 : Hid (∀ W, Below V.heap.size V W → Calls Try.prog 36 #[.agg #[.slice TA tn tc, .int .i64 f, .int .i64 wt, .slice MA mn mc]] W fun e w' => GivesFit ts ms W e w') := Lib.hid (fun W hW => law34_fit tc mc f wt (hT.keep hW) (hM.keep hW) (by omega) (by omega))
  have K2 : Hid (∀ W, Below V.heap.size V W → Calls Try.prog 37 #[.int .i64 f, .slice MA mn mc] W fun e w' => ∃ v, e = .returned (.tuple #[v, .bool (PO.safe f ms)]) ∧ OwnI W.heap.size w' v (PO.ints (PO.order f ms).1) ∧ Below W.heap.size W w') := Lib.hid (fun W hW => ref28_Order mc f (hM.keep hW) (by omega))
  have K4 : Hid (∀ W, Below V.heap.size V W → Calls Try.prog 34 #[.slice TA tn tc, .int .i64 f, .int .i64 0, .slice MA mn mc] W fun e w' => e = .returned (.int .i64 (SK.next ts ms f 0)) ∧ Below W.heap.size W w') := Lib.hid (fun W hW => skip_Next tc mc f 0 (hT.keep hW) (hM.keep hW) (by omega) bf (by omega) htc hcm)
  have HQ : Hid (SK.Fit ts ms → PO.safe f ms = true → 0 ≤ SK.next ts ms f 0) := Lib.hid (fun a b => SK.some_goes a b)
  have g1 : decide ((12 : Int) < (tn : Int)) = false := decide_eq_false (by omega)
  have g2 : decide ((12 : Int) < (mn : Int)) = false := decide_eq_false (by omega)
  have g1' : ¬ (12 : Int) < (tn : Int) := by omega
  have g2' : ¬ (12 : Int) < (mn : Int) := by omega
  have HV := Lib.hid hV
  have HP := Lib.hid hp
  have HB := Lib.hid hB
  generalize (PO.order f ms).1 = D at *
  obtain ⟨q, hq⟩ : ∃ q, PO.safe f ms = q := ⟨_, rfl⟩
  rw [hq] at K2 HQ
  generalize SK.next ts ms f 0 = Z at *
  clear hT hM h hm hV hp hB hq
  go_enter Try.func9, Try.ntmps9
  go_wp2_with fail
  rw [HV.out, HP.out]
  obtain ⟨c0, c1, c2, c3⟩ := hS.out V (Below.refl _ _)
  go_wp2_with fail
  refine (K1.out _ (Below.refl _ _)).mono ?_
  rintro e w1 ⟨r, rfl, hr, d1⟩
  replace hr := Lib.hid hr
  clear c0 c1 c2 c3
  obtain ⟨c0, c1, c2, c3⟩ := hS.out w1 d1
  cases r with
  | false =>
    go_wp2_with fail
    refine (law34_works _).mono ?_
    rintro e w5 ⟨rfl, d5⟩
    go_wp2_with fail
    exact bodyPost_ret (v := .bool true) (by simp [results, Try.results9, go_sem]) rfl ⟨rfl, bel_trans' HB.out (by exact (by repeat (first | exact Below.refl _ _ | assumption | refine bel_drew ?_ | refine bel_trans ?_ (by assumption)))) HB.out.size⟩
  | true =>
    have HF := Lib.hid (hr.out rfl)
    clear hr
    go_wp2_with fail
    refine (K2.out _ d1).mono ?_
    rintro e w2 ⟨v, rfl, ov, d2⟩
    have t2 : Below V.heap.size V w2 := by exact (by repeat (first | exact Below.refl _ _ | assumption | refine bel_drew ?_ | refine bel_trans ?_ (by assumption)))
    clear c0 c1 c2 c3 ov
    obtain ⟨c0, c1, c2, c3⟩ := hS.out w2 t2
    cases q with
    | false =>
      go_wp2_with fail
      refine (law34_works _).mono ?_
      rintro e w5 ⟨rfl, d5⟩
      go_wp2_with fail
      exact bodyPost_ret (v := .bool true) (by simp [results, Try.results9, go_sem]) rfl ⟨rfl, bel_trans' HB.out (by exact (by repeat (first | exact Below.refl _ _ | assumption | refine bel_drew ?_ | refine bel_trans ?_ (by assumption)))) HB.out.size⟩
    | true =>
      have hz := HQ.out HF.out rfl
      have g5 : decide ((0 : Int) ≤ Z) = true := decide_eq_true hz
      go_wp2_with fail
      refine (K4.out _ t2).mono ?_
      rintro e w3 ⟨rfl, d3⟩
      have t3 : Below V.heap.size V w3 := by exact (by repeat (first | exact Below.refl _ _ | assumption | refine bel_drew ?_ | refine bel_trans ?_ (by assumption)))
      go_wp2_with fail
      refine (law34_works _).mono ?_
      rintro e w5 ⟨rfl, d5⟩
      go_wp2_with fail
      exact bodyPost_ret (v := .bool true) (by simp [results, Try.results9, go_sem]) rfl ⟨rfl, bel_trans' HB.out (by exact (by repeat (first | exact Below.refl _ _ | assumption | refine bel_drew ?_ | refine bel_trans ?_ (by assumption)))) HB.out.size⟩
theorem law34_SkipSome {TA MA : Option Addr} {tn mn : Nat} {ts : List SK.Tick} {ms : List PO.Mem} (tc mc : Nat) (f wt : Int) {w : World} (h : TickAt w TA tn ts) (hm : MemAt w MA mn ms) (bf : -9223372036854775808 ≤ f ∧ f ≤ 9223372036854775807) (bw : -9223372036854775808 ≤ wt ∧ wt ≤ 9223372036854775807) (htc : tn ≤ tc) (hcm : tc ≤ 9223372036854775807) :
    Calls Try.prog 9 #[.agg #[.slice TA tn tc, .int .i64 f, .int .i64 wt, .slice MA mn mc]] w fun e w' => e = .returned (.bool true) ∧ Below w.heap.size w w' := by
  rcases Nat.lt_or_ge 12 tn with h1 | h1
  · exact law34_long_SkipSome tc mc f wt w (.inl h1)
  · rcases Nat.lt_or_ge 12 mn with h2 | h2
    · exact law34_long_SkipSome tc mc f wt w (.inr h2)
    · exact law34_SkipSome_some tc mc f wt h hm bf bw htc hcm h1 h2
end Go.Proofs.Ythmjbfocpdiikaa
