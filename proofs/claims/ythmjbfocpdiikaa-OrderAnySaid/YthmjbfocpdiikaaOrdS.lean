/-
  Layer 28 (order): the walk of OrderAny.
-/
import Derived.Test.YthmjbfocpdiikaaOrdQ
namespace Go.Proofs.Ythmjbfocpdiikaa
open Go.RowKit
set_option linter.unusedVariables false
set_option linter.unusedSimpArgs false
attribute [local go_sem] drewN_alloc drewN_setCell

theorem short_none {f : Int} {l : List PO.Mem} (hm : PO.may f l = true) : (PO.short f l).length = 0 ↔ PO.safe f l = true := by
  obtain ⟨h1, h2, _, _⟩ := PO.takenAll_spec hm
  have e : PO.short f l = pick (PO.takenAll f l) l.length := by unfold PO.short PO.doneOf; rw [hm, if_pos rfl]
  rw [e, PO.safe_iff hm]
  constructor
  · intro h0
    have h3 := List.eq_nil_of_length_eq_zero h0
    have hs := (List.nodup_range (n := l.length)).length_le_of_subset (l₂ := PO.takenAll f l) (fun x hx => by
      apply Classical.byContradiction
      intro hno
      have : x ∈ pick (PO.takenAll f l) l.length := by
        unfold pick
        rw [List.mem_filter]
        exact ⟨hx, by simpa using hno⟩
      rw [h3] at this
      cases this)
    rw [List.length_range] at hs
    have := PO.nodup_le _ _ h1 h2
    omega
  · intro hl
    have : pick (PO.takenAll f l) l.length = [] := by
      unfold pick
      rw [List.filter_eq_nil_iff]
      intro a ha
      rw [List.mem_range] at ha
      have := PO.all_in _ _ h1 h2 hl a ha
      simp [this]
    rw [this]
    rfl

set_option maxRecDepth 100000 in
set_option maxHeartbeats 8000000 in
theorem law28_OrderAny {A : Option Addr} {n : Nat} {l : List PO.Mem} (c : Nat) (f : Int) (w : World) (h : MemAt w A n l) (hle : n ≤ c) (hcb : c ≤ 9223372036854775807) :
    Calls Try.prog 14 #[.int .i64 f, .slice A n c] w fun e w' => e = .returned (.bool true) ∧ Below w.heap.size w w' := by
  by_cases hn : 6 < n
  · have g1 : decide ((6 : Int) < (n : Int)) = true := decide_eq_true (by omega)
    have g1' : (6 : Int) < (n : Int) := by omega
    clear h
    go_enter Try.func14, Try.ntmps14
    go_wp2_with fail
    refine (law28_works _).mono ?_
    rintro e w9 ⟨rfl, d9⟩
    go_wp2_with fail
    exact bodyPost_ret (v := .bool true) (by simp [results, Try.results14, go_sem]) rfl ⟨rfl, by exact (by repeat (first | exact Below.refl _ _ | assumption | refine bel_drew ?_ | refine bel_drewN ?_ _ | refine bel_trans ?_ (by assumption)))⟩
  · have g1 : decide ((6 : Int) < (n : Int)) = false := decide_eq_false (by omega)
    have g1' : ¬ (6 : Int) < (n : Int) := by omega
    have K0 := Lib.hid (ref28_May c f h)
    cases hm : PO.may f l
    · have K1 : Hid (∀ W, Below w.heap.size w W → Calls Try.prog 42 #[.int .i64 f, .slice A n c] W fun e w' => e = .returned (.bool false) ∧ Below W.heap.size W w') := Lib.hid (fun W hW => by
        have K := order_Safe c f (h.keep hW) (by omega)
        have e : PO.safe f l = false := by
          cases hs : PO.safe f l
          · rfl
          · have := PO.safe_may hs; rw [hm] at this; cases this
        rwa [e] at K)
      rw [hm] at K0
      clear h hm
      go_enter Try.func14, Try.ntmps14
      go_wp2_with fail
      refine K0.out.mono ?_
      rintro e w1 ⟨rfl, d1⟩
      go_wp2_with fail
      refine (K1.out _ d1).mono ?_
      rintro e w2 ⟨rfl, d2⟩
      have t2 : Below w.heap.size w w2 := bel_trans d1 d2
      go_wp2_with fail
      refine (law28_works _).mono ?_
      rintro e w9 ⟨rfl, d9⟩
      go_wp2_with fail
      exact bodyPost_ret (v := .bool true) (by simp [results, Try.results14, go_sem]) rfl ⟨rfl, by exact (by repeat (first | exact Below.refl _ _ | assumption | refine bel_drew ?_ | refine bel_drewN ?_ _ | refine bel_trans ?_ (by assumption)))⟩
    · obtain ⟨f0, f1, fa⟩ := PO.may_iff.1 hm
      have K1 : Hid (∀ W, Below w.heap.size w W → Calls Try.prog 45 #[.int .i64 f, .slice A n c] W fun e w' => ∃ v, e = .returned (.tuple #[v, .bool (PO.safe f l)]) ∧ OwnI W.heap.size w' v (PO.ints (PO.order f l).1) ∧ Below W.heap.size W w') := Lib.hid (fun W hW => order_Order c f (h.keep hW) (by omega))
      have K2 : Hid (∀ W, Below w.heap.size w W → Calls Try.prog 52 #[.int .i64 f, .slice A n c] W fun e w' => e = .returned (.bool (PO.safe f l)) ∧ Below W.heap.size W w') := Lib.hid (fun W hW => by
        refine (ref28_Any n c f (by omega) (h.keep hW) hle hcb fa f0 (by omega)).mono ?_
        rintro e w' ⟨r, rfl, hr, d⟩
        have e : r = PO.safe f l := by
          rw [Bool.eq_iff_iff, hr]
          exact (PO.safe_runs hm).symm
        rw [e]
        exact ⟨rfl, d⟩)
      have K4 : Hid (∀ W B c' m, Below w.heap.size w W → IntsAt W B m (PO.ints (PO.order f l).1) → PO.safe f l = true → Calls Try.prog 46 #[.slice B m c', .int .i64 f, .slice A n c] W fun e w' => e = .returned (.bool true) ∧ Below W.heap.size W w') := Lib.hid (fun W B c' m hW hB hs => by
        have K := order_Right c' c f hB (h.keep hW) (by omega)
        rwa [PO.order_right hs] at K)
      have K6 : Hid (∀ W, Below w.heap.size w W → Calls Try.prog 48 #[.int .i64 f, .slice A n c] W fun e w' => ∃ v, e = .returned v ∧ OwnI W.heap.size w' v (PO.ints (PO.short f l)) ∧ Below W.heap.size W w') := Lib.hid (fun W hW => order_Short c f (h.keep hW) (by omega))
      have hsn := short_none hm
      have HSL : (PO.ints (PO.short f l)).length = 0 ↔ PO.safe f l = true := by rw [PO.ints_len]; exact hsn
      rw [hm] at K0
      generalize PO.ints (PO.order f l).1 = O at *
      generalize PO.safe f l = q at *
      generalize PO.ints (PO.short f l) = D at *
      have HSL' := Lib.hid HSL
      clear h hm hsn HSL fa
      go_enter Try.func14, Try.ntmps14
      go_wp2_with fail
      refine K0.out.mono ?_
      rintro e w1 ⟨rfl, d1⟩
      go_wp2_with fail
      refine (K1.out _ d1).mono ?_
      rintro e w2 ⟨v, rfl, ov, d2⟩
      have t2 : Below w.heap.size w w2 := bel_trans d1 d2
      obtain ⟨OA, oc, rfl, hoi, _⟩ := ov.ints
      have HOI := Lib.hid hoi
      clear ov hoi
      go_wp2_with fail
      refine (K2.out _ t2).mono ?_
      rintro e w3 ⟨rfl, d3⟩
      have t3 : Below w.heap.size w w3 := bel_trans t2 d3
      cases q with
      | false =>
        have hD : ¬ D.length = 0 := fun e => by have := HSL'.out.1 e; cases this
        go_wp2_with fail
        refine (K6.out _ t3).mono ?_
        rintro e w5 ⟨v, rfl, ov, d5⟩
        have t5 : Below w.heap.size w w5 := bel_trans t3 d5
        obtain ⟨SA, sc, rfl, _⟩ := ov.ints
        have q1 : ((D.length : Int) == 0) = false := by simp; exact fun e => hD (by rw [e]; rfl)
        clear ov
        go_wp2_with fail
        refine (law28_works _).mono ?_
        rintro e w9 ⟨rfl, d9⟩
        go_wp2_with fail
        exact bodyPost_ret (v := .bool true) (by simp [results, Try.results14, go_sem]) rfl ⟨rfl, by exact (by repeat (first | exact Below.refl _ _ | assumption | refine bel_drew ?_ | refine bel_drewN ?_ _ | refine bel_trans ?_ (by assumption)))⟩
      | true =>
        have hD : D.length = 0 := HSL'.out.2 rfl
        have K5 := Lib.hid (K4.out w3 OA oc O.length t3 (HOI.out.keep d3) rfl)
        go_wp2_with fail
        refine K5.out.mono ?_
        rintro e w4 ⟨rfl, d4⟩
        have t4 : Below w.heap.size w w4 := bel_trans t3 d4
        go_wp2_with fail
        refine (K6.out _ t4).mono ?_
        rintro e w5 ⟨v, rfl, ov, d5⟩
        have t5 : Below w.heap.size w w5 := bel_trans t4 d5
        obtain ⟨SA, sc, rfl, _⟩ := ov.ints
        rw [hD]
        clear ov
        go_wp2_with fail
        refine (law28_works _).mono ?_
        rintro e w9 ⟨rfl, d9⟩
        go_wp2_with fail
        exact bodyPost_ret (v := .bool true) (by simp [results, Try.results14, go_sem]) rfl ⟨rfl, by exact (by repeat (first | exact Below.refl _ _ | assumption | refine bel_drew ?_ | refine bel_drewN ?_ _ | refine bel_trans ?_ (by assumption)))⟩
end Go.Proofs.Ythmjbfocpdiikaa
