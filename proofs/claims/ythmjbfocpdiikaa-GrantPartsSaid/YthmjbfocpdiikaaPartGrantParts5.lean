/- Part 5 of the proof of GrantParts: lemmas, each with its conditions ahead of it. -/
import Derived.Test.YthmjbfocpdiikaaPartGrantParts4
import Derived.Test.YthmjbfocpdiikaaPartGrantParts3
import Derived.Laws.CopyOwn
import Derived.ArgAppend
import Derived.Test.YthmjbfocpdiikaaPartGrantParts2
import Derived.Deep.Cut
import Derived.Outline
/-
  The reference of layer 34: Member, Why, Next.
-/
namespace Go.Proofs.Ythmjbfocpdiikaa
open Go.RowKit
set_option linter.unusedVariables false
set_option linter.unusedSimpArgs false
attribute [local go_sem] drewN_alloc drewN_setCell

def RMemRel (w : World) (id : Int) (l : List PO.Mem) (n : Nat) (i : Value) (wr : World) : Prop :=
  ∃ k : Nat, k ≤ n ∧ i = .int .i64 k ∧ (∀ j, j < k → decide ((l.getD j PO.m0).1 = id) = false) ∧ Below w.heap.size w wr
set_option maxHeartbeats 4000000 in
theorem ref34_Member {A : Option Addr} {n : Nat} {l : List PO.Mem} (c : Nat) (id : Int) {w : World} (h : MemAt w A n l) :
    Calls Try.prog 63 #[.slice A n c, .int .i64 id] w fun e w' => e = .returned (.int .i64 (SK.member l id)) ∧ Below w.heap.size w w' := by
  obtain ⟨R, hR⟩ : ∃ R, SK.member l id = R := ⟨_, rfl⟩
  rw [hR]
  have HR := Lib.hid hR
  have HX := Lib.hid h.1
  have HN := h.2.1
  have HC := Lib.hid h.2.2.2
  clear hR h
  go_enter Try.func63, Try.ntmps63
  go_wp2_with fail
  go_loopw [5] (fun i wr => RMemRel w id l n i wr) (fun i _ => n - (intOf i).toNat)
  case atStart => exact ⟨0, Nat.zero_le _, rfl, fun j hj => absurd hj (by omega), Below.refl _ _⟩
  case round =>
    obtain ⟨k, hk, rfl, hnot, hbel⟩ := hrel
    have HNOT := Lib.hid hnot
    clear hnot
    have j1 : (0 : Int) ≤ (k : Int) := by omega
    by_cases hlt : (k : Int) < n
    · obtain ⟨b, off, rfl, hb, hcs⟩ := HC.out (by omega)
      obtain ⟨x0, x1, x2, x3⟩ := (hcs k (by omega)).keep hbel hb
      obtain ⟨m, hm⟩ : ∃ m, l.getD k PO.m0 = m := ⟨_, rfl⟩
      rw [hm] at x0 x1 x2 x3
      have HM := Lib.hid hm
      clear hm hcs
      by_cases hq : m.1 = id
      · have HE : Hid ((k : Int) = R) := Lib.hid ((PO.idx_at (p := fun m => decide (m.1 = id)) (by rw [HX.out]; omega) HNOT.out (by rw [HM.out]; exact decide_eq_true hq)).symm.trans HR.out)
        have q1 : (m.1 == id) = true := by simpa using hq
        clear hq
        go_wp2_with fail
        go_ret
        exact ⟨ret_int HE.out, (by repeat (first | exact Below.refl _ _ | assumption | refine bel_drew ?_ | refine bel_drewN ?_ _ | refine bel_alloc ?_ _ | refine bel_set ?_ (by first | (dsimp only; omega) | (simp; done) | (simp; omega)) _ | refine bel_trans ?_ (by assumption)))⟩
      · have HE : Hid (∀ j, j < k + 1 → decide ((l.getD j PO.m0).1 = id) = false) := Lib.hid (fun j hj => by
          rcases Nat.lt_or_ge j k with h1 | h1
          · exact HNOT.out j h1
          · obtain rfl : j = k := by omega
            rw [HM.out]; exact decide_eq_false hq)
        have q1 : (m.1 == id) = false := by simpa using hq
        clear hq
        go_wp2_with fail
        go_roundw
        case rel => exact ⟨k + 1, by omega, by go_num, HE.out, (by repeat (first | exact Below.refl _ _ | assumption | refine bel_drew ?_ | refine bel_drewN ?_ _ | refine bel_alloc ?_ _ | refine bel_set ?_ (by first | (dsimp only; omega) | (simp; done) | (simp; omega)) _ | refine bel_trans ?_ (by assumption)))⟩
        case measure => simp [intOf]; omega
    · have HE : Hid ((-1 : Int) = R) := Lib.hid ((PO.idx_none (p := fun m => decide (m.1 = id)) (fun j hj => HNOT.out j (by rw [HX.out] at hj; omega))).symm.trans HR.out)
      go_wp2_with fail
      go_ret
      exact ⟨ret_int HE.out, (by repeat (first | exact Below.refl _ _ | assumption | refine bel_drew ?_ | refine bel_drewN ?_ _ | refine bel_alloc ?_ _ | refine bel_set ?_ (by first | (dsimp only; omega) | (simp; done) | (simp; omega)) _ | refine bel_trans ?_ (by assumption)))⟩

theorem any_take_true {ts : List SK.Tick} {k i : Nat} (hk : k < ts.length) (hi : i < k) (h : SK.cl ts i = SK.cl ts k) : SK.ahead ts k = true := by
  unfold SK.ahead
  rw [List.any_eq_true]
  refine ⟨ts.getD i SK.t0, ?_, decide_eq_true h⟩
  have hl : i < (ts.take k).length := by simp; omega
  have e : ts.getD i SK.t0 = (ts.take k)[i] := by simp [List.getD, show i < ts.length by omega]
  rw [e]
  exact List.getElem_mem hl
theorem any_take_false {ts : List SK.Tick} {k : Nat} (hk : k < ts.length) (h : ∀ i, i < k → SK.cl ts i ≠ SK.cl ts k) : SK.ahead ts k = false := by
  unfold SK.ahead
  rw [List.any_eq_false]
  intro t ht
  obtain ⟨i, hi, rfl⟩ := List.mem_iff_getElem.1 ht
  simp at hi
  have := h i (by omega)
  have e : SK.cl ts i = ((ts.take k)[i]'(by simp; omega)).2.1 := by simp [SK.cl, List.getD, show i < ts.length by omega]
  rw [e] at this
  simpa using this
theorem why_at {ts : List SK.Tick} {ms : List PO.Mem} {f wt : Int} {k : Nat} (hk : k < ts.length) : SK.why ts ms f wt (k : Int) = (if SK.member ms (SK.cl ts k) < 0 then 2 else if SK.ahead ts k = true then 3 else if PO.bmay f wt ms (SK.member ms (SK.cl ts k)) (ts.getD k SK.t0).2.2.1 = false then 4 else if 0 < k ∧ (ms.getD (SK.member ms (SK.cl ts k)).toNat PO.m0).2.2.1 = 0 ∧ 8 ≤ (ts.getD 0 SK.t0).2.2.2.2 then 5 else 0) := by
  unfold SK.why
  rw [if_neg (by omega)]
  simp only [Int.toNat_natCast, Int.natCast_pos]
def RAheadRel (w : World) (ts : List SK.Tick) (k : Nat) (i : Value) (wr : World) : Prop :=
  ∃ j : Nat, j ≤ k ∧ i = .int .i64 j ∧ (∀ i, i < j → SK.cl ts i ≠ SK.cl ts k) ∧ Below w.heap.size w wr

set_option maxRecDepth 100000 in
set_option maxHeartbeats 16000000 in
theorem ref34_Why {TA MA : Option Addr} {tn mn : Nat} {ts : List SK.Tick} {ms : List PO.Mem} (tc mc : Nat) (f wt a : Int) {w : World} (h : TickAt w TA tn ts) (hm : MemAt w MA mn ms) (hn : mn ≤ 1000) (bf : -9223372036854775808 ≤ f ∧ f ≤ 9223372036854775807) (bw : -9223372036854775808 ≤ wt ∧ wt ≤ 9223372036854775807) :
    Calls Try.prog 31 #[.slice TA tn tc, .int .i64 a, .int .i64 f, .int .i64 wt, .slice MA mn mc] w fun e w' => e = .returned (.int .i64 (SK.why ts ms f wt a)) ∧ Below w.heap.size w w' := by
  obtain ⟨Y, hY⟩ : ∃ Y, SK.why ts ms f wt a = Y := ⟨_, rfl⟩
  rw [hY]
  by_cases h1 : a < 0
  · have HE : Hid ((1 : Int) = Y) := Lib.hid (by rw [← hY]; unfold SK.why; rw [if_pos (.inl h1)])
    have g0 : decide (a < 0) = true := decide_eq_true h1
    clear h hm hY
    go_enter Try.func31, Try.ntmps31
    go_wp2_with fail
    go_ret
    exact ⟨ret_int HE.out, (by repeat (first | exact Below.refl _ _ | assumption | refine bel_drew ?_ | refine bel_drewN ?_ _ | refine bel_alloc ?_ _ | refine bel_set ?_ (by first | (dsimp only; omega) | (simp; done) | (simp; omega)) _ | refine bel_trans ?_ (by assumption)))⟩
  have g0 : decide (a < 0) = false := decide_eq_false h1
  by_cases h2 : (tn : Int) ≤ a
  · have HE : Hid ((1 : Int) = Y) := Lib.hid (by rw [← hY]; unfold SK.why; rw [if_pos (.inr (by rw [h.1]; exact h2))])
    have g1 : decide ((tn : Int) ≤ a) = true := decide_eq_true h2
    clear h hm hY
    go_enter Try.func31, Try.ntmps31
    go_wp2_with fail
    go_ret
    exact ⟨ret_int HE.out, (by repeat (first | exact Below.refl _ _ | assumption | refine bel_drew ?_ | refine bel_drewN ?_ _ | refine bel_alloc ?_ _ | refine bel_set ?_ (by first | (dsimp only; omega) | (simp; done) | (simp; omega)) _ | refine bel_trans ?_ (by assumption)))⟩
  obtain ⟨k, rfl⟩ : ∃ k : Nat, a = k := ⟨a.toNat, by omega⟩
  have hk : k < tn := by omega
  have hl := h.1
  have hlm := hm.1
  have hw := why_at (ts := ts) (ms := ms) (f := f) (wt := wt) (k := k) (by omega)
  rw [hY] at hw
  clear hY
  have htb := (h.bd hk).2.2.1
  have hmb := SK.idx_bd (fun m => decide (m.1 = SK.cl ts k)) ms
  have hmem : SK.member ms (SK.cl ts k) < 0 ∨ ∃ j : Nat, SK.member ms (SK.cl ts k) = (j : Int) ∧ j < mn := by
    by_cases h0 : SK.member ms (SK.cl ts k) < 0
    · exact .inl h0
    · obtain ⟨j, hj, hjm⟩ := SK.idx_lt (p := fun m => decide (m.1 = SK.cl ts k)) (l := ms) (by unfold SK.member at h0; omega)
      exact .inr ⟨j, hj, by omega⟩
  have K1 : Hid (∀ W, Below w.heap.size w W → Calls Try.prog 63 #[.slice MA mn mc, .int .i64 (ts.getD k SK.t0).2.1] W fun e w' => e = .returned (.int .i64 (SK.member ms (SK.cl ts k))) ∧ Below W.heap.size W w') := Lib.hid (fun W hW => ref34_Member mc _ (hm.keep hW))
  have K2 : Hid (∀ W, Below w.heap.size w W → Calls Try.prog 25 #[.int .i64 f, .int .i64 wt, .slice MA mn mc, .int .i64 (SK.member ms (SK.cl ts k)), .int .i64 (ts.getD k SK.t0).2.2.1] W fun e w' => e = .returned (.bool (PO.bmay f wt ms (SK.member ms (SK.cl ts k)) (ts.getD k SK.t0).2.2.1)) ∧ Below W.heap.size W w') := Lib.hid (fun W hW => ref29_May mc f wt _ _ (hm.keep hW) hn bf bw (by unfold SK.member; omega) htb)
  obtain ⟨b, off, rfl, hb, hc⟩ := h.2.2.2 (by omega)
  have HC := Lib.hid hc
  have HCM := Lib.hid hm.2.2.2
  have hAT : Hid (∀ i, i < k → SK.cl ts i = SK.cl ts k → SK.ahead ts k = true) := Lib.hid (fun i hi he => any_take_true (by omega) hi he)
  have hAF : Hid ((∀ i, i < k → SK.cl ts i ≠ SK.cl ts k) → SK.ahead ts k = false) := Lib.hid (fun hh => any_take_false (by omega) hh)
  obtain ⟨x0, x1, x2, x3, x4⟩ := hc k hk
  have HT : Hid (SK.cl ts k = (ts.getD k SK.t0).2.1) := Lib.hid rfl
  generalize PO.bmay f wt ms (SK.member ms (SK.cl ts k)) (ts.getD k SK.t0).2.2.1 = may at *
  generalize SK.member ms (SK.cl ts k) = r at *
  generalize SK.ahead ts k = ah at *
  obtain ⟨t, ht⟩ : ∃ t, ts.getD k SK.t0 = t := ⟨_, rfl⟩
  rw [ht] at K1 K2 HT x0 x1 x2 x3 x4
  replace ht := Lib.hid ht
  have HW := Lib.hid hw
  have hnm := h.2.1
  have hnm2 := hm.2.1
  have j0 : (0 : Int) ≤ (k : Int) := by omega
  have j1 : (k : Int) < (tn : Int) := by omega
  have j2 : ¬ tn ≤ k := by omega
  have j3 : 0 < tn := by omega
  have g1 : decide ((tn : Int) ≤ (k : Int)) = false := decide_eq_false h2
  have hbS := hb
  clear h hm hc hw hmb htb
  rcases hmem with hr | ⟨j, rfl, hjm⟩
  · have HE : Hid ((2 : Int) = Y) := Lib.hid (by rw [HW.out, if_pos hr])
    have g2 : decide (r < 0) = true := decide_eq_true hr
    clear HW
    go_enter Try.func31, Try.ntmps31
    go_wp2_with fail
    refine (K1.out _ (Below.refl _ _)).mono ?_
    rintro e w1 ⟨rfl, d1⟩
    go_wp2_with fail
    go_ret
    exact ⟨ret_int HE.out, (by repeat (first | exact Below.refl _ _ | assumption | refine bel_drew ?_ | refine bel_drewN ?_ _ | refine bel_alloc ?_ _ | refine bel_set ?_ (by first | (dsimp only; omega) | (simp; done) | (simp; omega)) _ | refine bel_trans ?_ (by assumption)))⟩
  have g2 : ¬ ((j : Int) < 0) := by omega
  have j5 : (0 : Int) ≤ (j : Int) := by omega
  have j6 : (j : Int) < (mn : Int) := by omega
  have HW2 : Hid (Y = (if ah = true then 3 else if may = false then 4 else if 0 < k ∧ (ms.getD j PO.m0).2.2.1 = 0 ∧ 8 ≤ (ts.getD 0 SK.t0).2.2.2.2 then 5 else 0)) := Lib.hid (by rw [HW.out, if_neg g2]; rfl)
  clear HW
  go_enter Try.func31, Try.ntmps31
  go_wp2_with fail
  refine (K1.out _ (Below.refl _ _)).mono ?_
  rintro e w1 ⟨rfl, d1⟩
  go_wp2_with fail
  go_loopw [12] (fun i wr => RAheadRel w ts k i wr) (fun i _ => k - (intOf i).toNat)
  case atStart => exact ⟨0, Nat.zero_le _, rfl, fun j hj => absurd hj (by omega), (by repeat (first | exact Below.refl _ _ | assumption | refine bel_drew ?_ | refine bel_drewN ?_ _ | refine bel_alloc ?_ _ | refine bel_set ?_ (by first | (dsimp only; omega) | (simp; done) | (simp; omega)) _ | refine bel_trans ?_ (by assumption)))⟩
  case round =>
    obtain ⟨i, hi, rfl, hnot, hbel⟩ := hrel
    have HNOT := Lib.hid hnot
    clear hnot x0 x1 x2 x3 x4
    obtain ⟨x0, x1, x2, x3, x4⟩ := (ht.out ▸ HC.out k hk : TickCells w b (off + k * 5) t).keep hbel hb
    have i1 : (0 : Int) ≤ (i : Int) := by omega
    by_cases hlt : i < k
    · have i2 : (i : Int) < (k : Int) := by omega
      have i3 : (i : Int) < (tn : Int) := by omega
      obtain ⟨y0, y1, y2, y3, y4⟩ := (HC.out i (by omega)).keep hbel hb
      obtain ⟨u, hu⟩ : ∃ u, ts.getD i SK.t0 = u := ⟨_, rfl⟩
      rw [hu] at y0 y1 y2 y3 y4
      replace hu : Hid (SK.cl ts i = u.2.1) := Lib.hid (by rw [← hu]; rfl)
      by_cases hq : u.2.1 = t.2.1
      · have HE : Hid ((3 : Int) = Y) := Lib.hid (by rw [HW2.out, if_pos (hAT.out i hlt (hu.out.trans (hq.trans HT.out.symm)))])
        have q1 : (u.2.1 == t.2.1) = true := by simpa using hq
        clear hq
        go_wp2_with fail
        go_quiet (fail)
        go_wp2_with fail
        go_ret
        exact ⟨ret_int HE.out, (by repeat (first | exact Below.refl _ _ | assumption | refine bel_drew ?_ | refine bel_drewN ?_ _ | refine bel_alloc ?_ _ | refine bel_set ?_ (by first | (dsimp only; omega) | (simp; done) | (simp; omega)) _ | refine bel_trans ?_ (by assumption)))⟩
      · have HE : Hid (∀ i', i' < i + 1 → SK.cl ts i' ≠ SK.cl ts k) := Lib.hid (fun i' h' => by
          rcases Nat.lt_or_ge i' i with h1 | h1
          · exact HNOT.out i' h1
          · obtain rfl : i' = i := by omega
            rw [hu.out, HT.out]; exact hq)
        have q1 : (u.2.1 == t.2.1) = false := by simpa using hq
        clear hq
        go_wp2_with fail
        go_quiet (fail)
        go_wp2_with fail
        go_roundw
        case rel => exact ⟨i + 1, by omega, by go_num, HE.out, (by repeat (first | exact Below.refl _ _ | assumption | refine bel_drew ?_ | refine bel_drewN ?_ _ | refine bel_alloc ?_ _ | refine bel_set ?_ (by first | (dsimp only; omega) | (simp; done) | (simp; omega)) _ | refine bel_trans ?_ (by assumption)))⟩
        case measure => simp [intOf]; omega
    · obtain rfl : i = k := by omega
      have HE := Lib.hid (hAF.out HNOT.out)
      have HW3 : Hid (Y = (if may = false then 4 else if 0 < i ∧ (ms.getD j PO.m0).2.2.1 = 0 ∧ 8 ≤ (ts.getD 0 SK.t0).2.2.2.2 then 5 else 0)) := Lib.hid (by rw [HW2.out, HE.out]; rfl)
      clear HE
      rcases may with _ | _
      · have HE2 : Hid ((4 : Int) = Y) := Lib.hid (by rw [HW3.out, if_pos rfl])
        go_wp2_with fail
        refine (K2.out _ (by exact (by repeat (first | exact Below.refl _ _ | assumption | refine bel_drew ?_ | refine bel_drewN ?_ _ | refine bel_alloc ?_ _ | refine bel_set ?_ (by first | (dsimp only; omega) | (simp; done) | (simp; omega)) _ | refine bel_trans ?_ (by assumption))))).mono ?_
        rintro e w2 ⟨rfl, d2⟩
        go_wp2_with fail
        go_ret
        exact ⟨ret_int HE2.out, (by repeat (first | exact Below.refl _ _ | assumption | refine bel_drew ?_ | refine bel_drewN ?_ _ | refine bel_alloc ?_ _ | refine bel_set ?_ (by first | (dsimp only; omega) | (simp; done) | (simp; omega)) _ | refine bel_trans ?_ (by assumption)))⟩
      · obtain ⟨b', off', rfl, hb', hc'⟩ := HCM.out (by omega)
        have HCJ := Lib.hid (hc' j hjm)
        clear hc'
        have HC0 := Lib.hid (HC.out 0 (by omega))
        obtain ⟨m, hm⟩ : ∃ m, ms.getD j PO.m0 = m := ⟨_, rfl⟩
        obtain ⟨v, hv⟩ : ∃ v, ts.getD 0 SK.t0 = v := ⟨_, rfl⟩
        rw [hm] at HCJ HW3
        rw [hv] at HC0 HW3
        clear hm hv
        go_wp2_with fail
        refine (K2.out _ (by exact (by repeat (first | exact Below.refl _ _ | assumption | refine bel_drew ?_ | refine bel_drewN ?_ _ | refine bel_alloc ?_ _ | refine bel_set ?_ (by first | (dsimp only; omega) | (simp; done) | (simp; omega)) _ | refine bel_trans ?_ (by assumption))))).mono ?_
        rintro e w2 ⟨rfl, d2⟩
        have d3 := bel_trans hbel d2
        obtain ⟨z0, z1, z2, z3⟩ := HCJ.out.keep d3 hb'
        obtain ⟨y0, y1, y2, y3, y4⟩ := HC0.out.keep d3 hb
        simp only [Nat.zero_mul, Nat.add_zero] at y4
        clear z0 z1 z3 y0 y1 y2 y3 x0 x1 x2 x3 x4
        by_cases h5 : 0 < i
        · have g5 : decide (0 < i) = true := decide_eq_true h5
          by_cases h6 : m.2.2.1 = 0
          · have g6 : (m.2.2.1 == 0) = true := by simpa using h6
            by_cases h7 : 8 ≤ v.2.2.2.2
            · have g7 : decide (8 ≤ v.2.2.2.2) = true := decide_eq_true h7
              have HE2 : Hid ((5 : Int) = Y) := Lib.hid (by rw [HW3.out, if_neg (by simp), if_pos ⟨h5, h6, h7⟩])
              clear h6
              go_wp2_with fail
              go_ret
              exact ⟨ret_int HE2.out, (by repeat (first | exact Below.refl _ _ | assumption | refine bel_drew ?_ | refine bel_drewN ?_ _ | refine bel_alloc ?_ _ | refine bel_set ?_ (by first | (dsimp only; omega) | (simp; done) | (simp; omega)) _ | refine bel_trans ?_ (by assumption)))⟩
            · have g7 : decide (8 ≤ v.2.2.2.2) = false := decide_eq_false h7
              have HE2 : Hid ((0 : Int) = Y) := Lib.hid (by rw [HW3.out, if_neg (by simp), if_neg (fun hh => h7 hh.2.2)])
              clear h6
              go_wp2_with fail
              go_ret
              exact ⟨ret_int HE2.out, (by repeat (first | exact Below.refl _ _ | assumption | refine bel_drew ?_ | refine bel_drewN ?_ _ | refine bel_alloc ?_ _ | refine bel_set ?_ (by first | (dsimp only; omega) | (simp; done) | (simp; omega)) _ | refine bel_trans ?_ (by assumption)))⟩
          · have g6 : (m.2.2.1 == 0) = false := by simpa using h6
            have HE2 : Hid ((0 : Int) = Y) := Lib.hid (by rw [HW3.out, if_neg (by simp), if_neg (fun hh => h6 hh.2.1)])
            clear h6
            go_wp2_with fail
            go_ret
            exact ⟨ret_int HE2.out, (by repeat (first | exact Below.refl _ _ | assumption | refine bel_drew ?_ | refine bel_drewN ?_ _ | refine bel_alloc ?_ _ | refine bel_set ?_ (by first | (dsimp only; omega) | (simp; done) | (simp; omega)) _ | refine bel_trans ?_ (by assumption)))⟩
        · have g5 : decide (0 < i) = false := decide_eq_false h5
          have HE2 : Hid ((0 : Int) = Y) := Lib.hid (by rw [HW3.out, if_neg (by simp), if_neg (fun hh => h5 hh.1)])
          go_wp2_with fail
          go_ret
          exact ⟨ret_int HE2.out, (by repeat (first | exact Below.refl _ _ | assumption | refine bel_drew ?_ | refine bel_drewN ?_ _ | refine bel_alloc ?_ _ | refine bel_set ?_ (by first | (dsimp only; omega) | (simp; done) | (simp; omega)) _ | refine bel_trans ?_ (by assumption)))⟩

set_option maxHeartbeats 4000000 in
theorem ref34_Next {TA MA : Option Addr} {tn mn : Nat} {ts : List SK.Tick} {ms : List PO.Mem} (tc mc : Nat) (f wt : Int) {w : World} (h : TickAt w TA tn ts) (hm : MemAt w MA mn ms) (hn : mn ≤ 1000) (bf : -9223372036854775808 ≤ f ∧ f ≤ 9223372036854775807) (bw : -9223372036854775808 ≤ wt ∧ wt ≤ 9223372036854775807) :
    Calls Try.prog 35 #[.slice TA tn tc, .int .i64 f, .int .i64 wt, .slice MA mn mc] w fun e w' => e = .returned (.int .i64 (SK.next ts ms f wt)) ∧ Below w.heap.size w w' := by
  obtain ⟨Y, hY⟩ : ∃ Y, SK.next ts ms f wt = Y := ⟨_, rfl⟩
  rw [hY]
  have HY := Lib.hid hY
  have HX := Lib.hid h.1
  have HN := h.2.1
  have K : Hid (∀ a W, Below w.heap.size w W → Calls Try.prog 31 #[.slice TA tn tc, .int .i64 a, .int .i64 f, .int .i64 wt, .slice MA mn mc] W fun e w' => e = .returned (.int .i64 (SK.why ts ms f wt a)) ∧ Below W.heap.size W w') := Lib.hid (fun a W hW => ref34_Why tc mc f wt a (h.keep hW) (hm.keep hW) hn bf bw)
  clear hY h hm
  go_enter Try.func35, Try.ntmps35
  go_wp2_with fail
  go_loopw [9] (fun i wr => SNextRel w ts ms f wt tn i wr) (fun i _ => tn - (intOf i).toNat)
  case atStart => exact ⟨0, Nat.zero_le _, rfl, fun j hj => absurd hj (by omega), Below.refl _ _⟩
  case round =>
    obtain ⟨k, hk, rfl, hnot, hbel⟩ := hrel
    have HNOT := Lib.hid hnot
    clear hnot
    have j1 : (0 : Int) ≤ (k : Int) := by omega
    by_cases hlt : (k : Int) < tn
    · have KP := Lib.hid (K.out (k : Int) wr hbel)
      by_cases hq : SK.why ts ms f wt (k : Int) = 0
      · rw [hq] at KP
        have HE : Hid ((k : Int) = Y) := Lib.hid ((SK.next_at (by rw [HX.out]; omega) HNOT.out hq).symm.trans HY.out)
        clear hq
        go_wp2_with fail
        refine KP.out.mono ?_
        rintro e w1 ⟨rfl, h1⟩
        go_wp2_with fail
        go_ret
        exact ⟨ret_int HE.out, (by repeat (first | exact Below.refl _ _ | assumption | refine bel_drew ?_ | refine bel_drewN ?_ _ | refine bel_alloc ?_ _ | refine bel_set ?_ (by first | (dsimp only; omega) | (simp; done) | (simp; omega)) _ | refine bel_trans ?_ (by assumption)))⟩
      · have q1 : (SK.why ts ms f wt (k : Int) == 0) = false := by simpa using hq
        have HE : Hid (∀ j : Nat, j < k + 1 → SK.why ts ms f wt (j : Int) ≠ 0) := Lib.hid (fun j hj => by
          rcases Nat.lt_or_ge j k with h1 | h1
          · exact HNOT.out j h1
          · obtain rfl : j = k := by omega
            exact hq)
        generalize SK.why ts ms f wt (k : Int) = yk at *
        clear hq
        go_wp2_with fail
        refine KP.out.mono ?_
        rintro e w1 ⟨rfl, h1⟩
        go_wp2_with fail
        go_roundw
        case rel => exact ⟨k + 1, by omega, by go_num, HE.out, (by repeat (first | exact Below.refl _ _ | assumption | refine bel_drew ?_ | refine bel_drewN ?_ _ | refine bel_alloc ?_ _ | refine bel_set ?_ (by first | (dsimp only; omega) | (simp; done) | (simp; omega)) _ | refine bel_trans ?_ (by assumption)))⟩
        case measure => simp [intOf]; omega
    · have HE : Hid ((-1 : Int) = Y) := Lib.hid ((SK.next_none (fun j hj => HNOT.out j (by rw [HX.out] at hj; omega))).symm.trans HY.out)
      go_wp2_with fail
      go_ret
      exact ⟨ret_int HE.out, (by repeat (first | exact Below.refl _ _ | assumption | refine bel_drew ?_ | refine bel_drewN ?_ _ | refine bel_alloc ?_ _ | refine bel_set ?_ (by first | (dsimp only; omega) | (simp; done) | (simp; omega)) _ | refine bel_trans ?_ (by assumption)))⟩

end Go.Proofs.Ythmjbfocpdiikaa
/-
  The example of layer 34; fit.
-/
namespace Go.Proofs.Ythmjbfocpdiikaa
open Go.RowKit
set_option linter.unusedVariables false
set_option linter.unusedSimpArgs false
attribute [local go_sem] drewN_alloc drewN_setCell

def exT : List SK.Tick := [(1, 0, 5, 1, 0), (2, 1, 1, 1, 0)]
def exM : List PO.Mem := [(0, 5, 0, 5), (1, 4, 1, 1)]
theorem ex_next : SK.next exT exM 4 0 = 1 := by decide +kernel
theorem ex_why : SK.why exT exM 4 0 0 = 4 := by decide +kernel
theorem ex_may34 : SK.why exT exM 4 0 1 = 0 := by decide +kernel
theorem ex_next1 : SK.next (exT.take 1) exM 4 0 = -1 := by decide +kernel

set_option maxRecDepth 100000 in
set_option maxHeartbeats 4000000 in
theorem law34_works (w : World) : Calls Try.prog 30 #[] w fun e w' => e = .returned (.bool true) ∧ Below w.heap.size w w' := by
  have hT : Hid (∀ W : World, TickAt (W.alloc (.cells #[.int .i64 1, .int .i64 0, .int .i64 5, .int .i64 1, .int .i64 0, .int .i64 2, .int .i64 1, .int .i64 1, .int .i64 1, .int .i64 0] 51)) (some ⟨W.heap.size, 0, none⟩) 2 exT) := Lib.hid (fun W => by
    refine ⟨rfl, by omega, fun t ht => ?_, fun _ => ⟨_, 0, rfl, by simp, fun i hi => ?_⟩⟩
    · simp only [exT, List.mem_cons, List.not_mem_nil, or_false] at ht
      rcases ht with rfl | rfl <;> refine ⟨⟨?_, ?_⟩, ⟨?_, ?_⟩, ⟨?_, ?_⟩, ⟨?_, ?_⟩, ?_, ?_⟩ <;> dsimp only <;> omega
    · obtain rfl | rfl : i = 0 ∨ i = 1 := by omega
      · unfold TickCells; simp [go_sem, exT]
      · unfold TickCells; simp [go_sem, exT])
  have hM : Hid (∀ W : World, MemAt (W.alloc (.cells #[.int .i64 0, .int .i64 5, .int .i64 0, .int .i64 5, .int .i64 1, .int .i64 4, .int .i64 1, .int .i64 1] 34)) (some ⟨W.heap.size, 0, none⟩) 2 exM) := Lib.hid (fun W => by
    refine mem_of_row (World.alloc_heap_new _ _ : (W.alloc (.cells #[.int .i64 0, .int .i64 5, .int .i64 0, .int .i64 5, .int .i64 1, .int .i64 4, .int .i64 1, .int .i64 1] 34)).heap[W.heap.size]? = some (.cells (cellsM exM).toArray 34 (0, 0))) (by simp [exM]) (fun m hm => by
      simp only [exM, List.mem_cons, List.not_mem_nil, or_false] at hm
      rcases hm with rfl | rfl <;> refine ⟨⟨?_, ?_⟩, ⟨?_, ?_⟩, ⟨?_, ?_⟩, ?_, ?_⟩ <;> dsimp only <;> omega))
  obtain ⟨V, hV⟩ : ∃ V, (w.alloc (.cells #[.int .i64 1, .int .i64 0, .int .i64 5, .int .i64 1, .int .i64 0, .int .i64 2, .int .i64 1, .int .i64 1, .int .i64 1, .int .i64 0] 51)).alloc (.cells #[.int .i64 0, .int .i64 5, .int .i64 0, .int .i64 5, .int .i64 1, .int .i64 4, .int .i64 1, .int .i64 1] 34) = V := ⟨_, rfl⟩
  have hB : Below w.heap.size w V := by rw [← hV]; exact (by repeat (first | exact Below.refl _ _ | assumption | refine bel_drew ?_ | refine bel_drewN ?_ _ | refine bel_alloc ?_ _ | refine bel_set ?_ (by first | (dsimp only; omega) | (simp; done) | (simp; omega)) _ | refine bel_trans ?_ (by assumption)))
  obtain ⟨p, hp⟩ : ∃ p, w.heap.size = p := ⟨_, rfl⟩
  have h1 : TickAt V (some ⟨p, 0, none⟩) 2 exT := by rw [← hV, ← hp]; exact (hT.out w).keep (by exact (by repeat (first | exact Below.refl _ _ | assumption | refine bel_drew ?_ | refine bel_drewN ?_ _ | refine bel_alloc ?_ _ | refine bel_set ?_ (by first | (dsimp only; omega) | (simp; done) | (simp; omega)) _ | refine bel_trans ?_ (by assumption))))
  have h2 : MemAt V (some ⟨p + 1, 0, none⟩) 2 exM := by
    rw [← hV, ← hp]
    have := hM.out (w.alloc (.cells #[.int .i64 1, .int .i64 0, .int .i64 5, .int .i64 1, .int .i64 0, .int .i64 2, .int .i64 1, .int .i64 1, .int .i64 1, .int .i64 0] 51))
    have e : (w.alloc (.cells #[.int .i64 1, .int .i64 0, .int .i64 5, .int .i64 1, .int .i64 0, .int .i64 2, .int .i64 1, .int .i64 1, .int .i64 1, .int .i64 0] 51)).heap.size = w.heap.size + 1 := by simp
    rwa [e] at this
  have K1 : Hid (∀ W, Below V.heap.size V W → Calls Try.prog 34 #[.slice (some ⟨p, 0, none⟩) 2 2, .int .i64 4, .int .i64 0, .slice (some ⟨p + 1, 0, none⟩) 2 2] W fun e w' => e = .returned (.int .i64 1) ∧ Below W.heap.size W w') := Lib.hid (fun W hW => by
    rw [← ex_next]; exact skip_Next 2 2 4 0 (h1.keep hW) (h2.keep hW) (by omega) (by omega) (by omega) (by omega) (by omega))
  have K2 : Hid (∀ W, Below V.heap.size V W → Calls Try.prog 32 #[.slice (some ⟨p, 0, none⟩) 2 2, .int .i64 0, .int .i64 4, .int .i64 0, .slice (some ⟨p + 1, 0, none⟩) 2 2] W fun e w' => e = .returned (.int .i64 4) ∧ Below W.heap.size W w') := Lib.hid (fun W hW => by
    have := skip_Why 2 2 4 0 0 (h1.keep hW) (h2.keep hW) (by omega) (by omega) (by omega) (by omega) (by omega)
    rwa [ex_why] at this)
  have K3 : Hid (∀ W, Below V.heap.size V W → Calls Try.prog 33 #[.slice (some ⟨p, 0, none⟩) 2 2, .int .i64 1, .int .i64 4, .int .i64 0, .slice (some ⟨p + 1, 0, none⟩) 2 2] W fun e w' => e = .returned (.bool true) ∧ Below W.heap.size W w') := Lib.hid (fun W hW => by
    have := skip_May 2 2 4 0 1 (h1.keep hW) (h2.keep hW) (by omega) (by omega) (by omega) (by omega) (by omega)
    rwa [ex_may34] at this)
  have K4 : Hid (∀ W, Below V.heap.size V W → Calls Try.prog 34 #[.slice (some ⟨p, 0, none⟩) 1 2, .int .i64 4, .int .i64 0, .slice (some ⟨p + 1, 0, none⟩) 2 2] W fun e w' => e = .returned (.int .i64 (-1)) ∧ Below W.heap.size W w') := Lib.hid (fun W hW => by
    rw [← ex_next1]; exact skip_Next 2 2 4 0 ((h1.take (by omega)).keep hW) (h2.keep hW) (by omega) (by omega) (by omega) (by omega) (by omega))
  have HV := Lib.hid hV
  have HP := Lib.hid hp
  have HB := Lib.hid hB
  clear hT hM hV hp hB h1 h2
  go_enter Try.func30, Try.ntmps30
  go_wp2_with fail
  rw [HV.out, HP.out]
  refine (K1.out _ (Below.refl _ _)).mono ?_
  rintro e w1 ⟨rfl, d1⟩
  go_wp2_with fail
  refine (K2.out _ d1).mono ?_
  rintro e w2 ⟨rfl, d2⟩
  have t2 := bel_trans d1 d2
  go_wp2_with fail
  refine (K3.out _ t2).mono ?_
  rintro e w3 ⟨rfl, d3⟩
  have t3 := bel_trans t2 d3
  go_wp2_with fail
  refine (K4.out _ t3).mono ?_
  rintro e w4 ⟨rfl, d4⟩
  go_wp2_with fail
  exact bodyPost_ret (v := .bool true) (by simp [results, Try.results30, go_sem]) rfl ⟨rfl, bel_trans' HB.out (bel_trans t3 d4) HB.out.size⟩

namespace SK
open PO
def cnt (ts : List Tick) (k : Nat) : Int := (ts.getD k t0).2.2.1
def tsum (ts : List Tick) (id : Int) : Nat → Int
  | 0 => 0
  | k + 1 => if cl ts k = id then tsum ts id k + cnt ts k else tsum ts id k
def FitM (ts : List Tick) (ms : List Mem) (i : Nat) : Prop :=
  member ms (ms.getD i m0).1 = (i : Int) ∧ (∀ k, k < ts.length → cl ts k = (ms.getD i m0).1 → 1 ≤ cnt ts k ∧ cnt ts k ≤ 1048576) ∧
  tsum ts (ms.getD i m0).1 ts.length = (ms.getD i m0).2.2.2 ∧ ((∃ k, k < ts.length ∧ cl ts k = (ms.getD i m0).1) ∨ (ms.getD i m0).2.2.1 ≤ 0)
def Fit (ts : List Tick) (ms : List Mem) : Prop := (∀ i, i < ms.length → FitM ts ms i) ∧ (∀ k, k < ts.length → 0 ≤ member ms (cl ts k)) ∧ 0 < ts.length
theorem tsum_bd {ts : List Tick} {id : Int} : ∀ {k : Nat}, (∀ j, j < k → cl ts j = id → 1 ≤ cnt ts j ∧ cnt ts j ≤ 1048576) → 0 ≤ tsum ts id k ∧ tsum ts id k ≤ 1048576 * (k : Int)
  | 0, _ => ⟨by simp [tsum], by simp [tsum]⟩
  | k + 1, h => by
    have ih := tsum_bd (k := k) (fun j hj => h j (by omega))
    unfold tsum
    split
    · have := h k (by omega) ‹_›
      omega
    · omega
end SK

def GivesFit (ts : List SK.Tick) (ms : List PO.Mem) (w : World) (e : Ending) (w' : World) : Prop := ∃ r, e = .returned (.bool r) ∧ (r = true → SK.Fit ts ms) ∧ Below w.heap.size w w'
theorem givesFit_false {ts : List SK.Tick} {ms : List PO.Mem} {w w' : World} (h : Below w.heap.size w w') : GivesFit ts ms w (.returned (.bool false)) w' := ⟨false, rfl, nofun, h⟩
def FitRel (V : World) (ts : List SK.Tick) (ms : List PO.Mem) (i : Value) (wr : World) : Prop :=
  ∃ j : Nat, j ≤ ms.length ∧ i = .int .i64 j ∧ (∀ i', i' < j → SK.FitM ts ms i') ∧ Below V.heap.size V wr
def FitIn (V : World) (ts : List SK.Tick) (id : Int) (sum has k : Value) (wr : World) : Prop :=
  ∃ (kk : Nat) (b : Bool), kk ≤ ts.length ∧ k = .int .i64 kk ∧ sum = .int .i64 (SK.tsum ts id kk) ∧ has = .bool b ∧ (b = true → ∃ k', k' < kk ∧ SK.cl ts k' = id) ∧ (∀ k', k' < kk → SK.cl ts k' = id → 1 ≤ SK.cnt ts k' ∧ SK.cnt ts k' ≤ 1048576) ∧ Below V.heap.size V wr
def FitEnd (V : World) (ts : List SK.Tick) (ms : List PO.Mem) (i : Value) (wr : World) : Prop :=
  ∃ j : Nat, j ≤ ts.length ∧ i = .int .i64 j ∧ (∀ i', i' < j → 0 ≤ SK.member ms (SK.cl ts i')) ∧ Below V.heap.size V wr

set_option maxRecDepth 100000 in
set_option maxHeartbeats 16000000 in
theorem law34_fit {TA MA : Option Addr} {tn mn : Nat} {ts : List SK.Tick} {ms : List PO.Mem} (tc mc : Nat) (f wt : Int) {w : World} (h : TickAt w TA tn ts) (hm : MemAt w MA mn ms) (hn : mn ≤ 1000) (htn : tn ≤ 1000) :
    Calls Try.prog 36 #[.agg #[.slice TA tn tc, .int .i64 f, .int .i64 wt, .slice MA mn mc]] w fun e w' => GivesFit ts ms w e w' := by
  obtain ⟨p, hp⟩ : ∃ p, w.heap.size = p := ⟨_, rfl⟩
  obtain ⟨V, hV⟩ : ∃ V, w.alloc (.cells #[.slice TA tn tc, .int .i64 f, .int .i64 wt, .slice MA mn mc] 45) = V := ⟨_, rfl⟩
  have hbV : Below w.heap.size w V := by rw [← hV]; exact (by repeat (first | exact Below.refl _ _ | assumption | refine bel_drew ?_ | refine bel_drewN ?_ _ | refine bel_alloc ?_ _ | refine bel_set ?_ (by first | (dsimp only; omega) | (simp; done) | (simp; omega)) _ | refine bel_trans ?_ (by assumption)))
  have sV : p < V.heap.size := by rw [← hV, ← hp]; simp
  have c0 : V.cell? ⟨p, 0, none⟩ = some (.slice TA tn tc) := by rw [← hV, ← hp]; simp [go_sem]
  have c3 : V.cell? ⟨p, 3, none⟩ = some (.slice MA mn mc) := by rw [← hV, ← hp]; simp [go_sem]
  have hT := h.keep hbV
  have hM := hm.keep hbV
  have KM : Hid (∀ id W, Below V.heap.size V W → Calls Try.prog 63 #[.slice MA mn mc, .int .i64 id] W fun e w' => e = .returned (.int .i64 (SK.member ms id)) ∧ Below W.heap.size W w') := Lib.hid (fun id W hW => ref34_Member mc id (hM.keep hW))
  have HA : Hid (∀ W : World, Below V.heap.size V W → W.cell? ⟨p, 0, none⟩ = some (.slice TA tn tc) ∧ W.cell? ⟨p, 3, none⟩ = some (.slice MA mn mc)) := Lib.hid (fun W hW => ⟨(hW.cell sV).trans c0, (hW.cell sV).trans c3⟩)
  have HT := Lib.hid hT.2.2.2
  have HM := Lib.hid hM.2.2.2
  have HTL := Lib.hid h.1
  have HML := Lib.hid hm.1
  have HV := Lib.hid hV
  have HP := Lib.hid hp
  have HB := Lib.hid hbV
  have hbe : ∀ X, Below V.heap.size V X → Below w.heap.size w X := fun X hX => bel_trans' HB.out hX HB.out.size
  have HBE := Lib.hid hbe
  clear hT hM h hm c0 c3 hV hp hbV hbe
  go_enter Try.func36, Try.ntmps36
  go_wp2_with fail
  rw [HV.out, HP.out]
  go_loopw [3] (fun i wr => FitRel V ts ms i wr) (fun i _ => mn - (intOf i).toNat)
  case atStart => exact ⟨0, Nat.zero_le _, rfl, fun j hj => absurd hj (by omega), Below.refl _ _⟩
  case round =>
    obtain ⟨j, hj, rfl, hdone, hbel⟩ := hrel
    rw [HML.out] at hj
    have HD := Lib.hid hdone
    clear hdone
    obtain ⟨d0, d3⟩ := HA.out wr hbel
    have j1 : (0 : Int) ≤ (j : Int) := by omega
    by_cases hlt : (j : Int) < mn
    · have j2 : (j : Int) < (mn : Int) := hlt
      obtain ⟨b', off', rfl, hb', hcm⟩ := HM.out (by omega)
      have HX : Hid (∀ W, Below V.heap.size V W → MemCells W b' (off' + j * 4) (ms.getD j PO.m0)) := Lib.hid (fun W hW => (hcm j (by omega)).keep hW hb')
      clear hcm
      obtain ⟨m, hmm⟩ : ∃ m, ms.getD j PO.m0 = m := ⟨_, rfl⟩
      rw [hmm] at HX
      replace hmm := Lib.hid hmm
      obtain ⟨r, hr⟩ : ∃ r, SK.member ms m.1 = r := ⟨_, rfl⟩
      have K1 := KM.out m.1
      rw [hr] at K1
      replace K1 := Lib.hid K1
      replace hr := Lib.hid hr
      have hS : Hid (∀ W : World, Below V.heap.size V W → (fun W : World => W.cell? ⟨p, 0, none⟩ = some (.slice TA tn tc) ∧ W.cell? ⟨p, 3, none⟩ = some (.slice (some ⟨b', off', none⟩) mn mc) ∧ W.cell? ⟨b', off' + j * 4, none⟩ = some (.int .i64 m.1)) W) := Lib.hid (fun W hW => ⟨(HA.out W hW).1, (HA.out W hW).2, (HX.out W hW).1⟩)
      by_cases hrj : r = (j : Int)
      · have q1 : (r == (j : Int)) = true := by simpa using hrj
        have HR : Hid (SK.member ms m.1 = (j : Int)) := Lib.hid (hr.out.trans hrj)
        clear hrj hr
        go_wp2_with fail
        refine wp_region_held_drew (S := (fun W : World => W.cell? ⟨p, 0, none⟩ = some (.slice TA tn tc) ∧ W.cell? ⟨p, 3, none⟩ = some (.slice (some ⟨b', off', none⟩) mn mc) ∧ W.cell? ⟨b', off' + j * 4, none⟩ = some (.int .i64 m.1))) (by kernel_rfl) ?_ (fun hHeld => ?_)
        focus ((try dsimp only); exact hS.out _ (by repeat (first | exact Below.refl _ _ | assumption | refine bel_drew ?_ | refine bel_trans ?_ (by assumption))))
        refine tk_yes 0 (v := ?_) rfl (by kernel_rfl) (by kernel_rfl) (by kernel_rfl) (fun _ _ _ h => h) (by kernel_rfl) (by assumption) ?_ ?_; rotate_left; (focus (intro w hSw; (try dsimp only at hSw); go_simp; (first | done | (with_reducible rfl)))); (try simp only [Act.put, List.setIfInBounds_toArray, List.set_cons_zero, List.set_cons_succ])
        refine tk_yes 1 (v := ?_) rfl (by kernel_rfl) (by kernel_rfl) (by kernel_rfl) (fun _ _ _ h => h) (by kernel_rfl) (by assumption) ?_ ?_; rotate_left; (focus (intro w hSw; (try dsimp only at hSw); go_simp; (first | done | (with_reducible rfl)))); (try simp only [Act.put, List.setIfInBounds_toArray, List.set_cons_zero, List.set_cons_succ])
        refine tk_yes 2 (v := ?_) rfl (by kernel_rfl) (by kernel_rfl) (by kernel_rfl) (fun _ _ _ h => h) (by kernel_rfl) (by assumption) ?_ ?_; rotate_left; (focus (intro w hSw; (try dsimp only at hSw); go_simp; (first | done | (with_reducible rfl)))); (try simp only [Act.put, List.setIfInBounds_toArray, List.set_cons_zero, List.set_cons_succ])
        refine tk_yes 3 (v := ?_) rfl (by kernel_rfl) (by kernel_rfl) (by kernel_rfl) (fun _ _ _ h => h) (by kernel_rfl) (by assumption) ?_ ?_; rotate_left; (focus (intro w hSw; (try dsimp only at hSw); go_simp; (first | done | (with_reducible rfl)))); (try simp only [Act.put, List.setIfInBounds_toArray, List.set_cons_zero, List.set_cons_succ])
        refine tk_yes 4 (v := ?_) rfl (by kernel_rfl) (by kernel_rfl) (by kernel_rfl) (fun _ _ _ h => h) (by kernel_rfl) (by assumption) ?_ ?_; rotate_left; (focus (intro w hSw; (try dsimp only at hSw); go_simp; (first | done | (with_reducible rfl)))); (try simp only [Act.put, List.setIfInBounds_toArray, List.set_cons_zero, List.set_cons_succ])
        refine tk_yes 5 (v := ?_) rfl (by kernel_rfl) (by kernel_rfl) (by kernel_rfl) (fun _ _ _ h => h) (by kernel_rfl) (by assumption) ?_ ?_; rotate_left; (focus (intro w hSw; (try dsimp only at hSw); go_simp; (first | done | (with_reducible rfl)))); (try simp only [Act.put, List.setIfInBounds_toArray, List.set_cons_zero, List.set_cons_succ])
        refine tk_yes 6 (v := ?_) rfl (by kernel_rfl) (by kernel_rfl) (by kernel_rfl) (fun _ _ _ h => h) (by kernel_rfl) (by assumption) ?_ ?_; rotate_left; (focus (intro w hSw; (try dsimp only at hSw); go_simp; (first | done | (with_reducible rfl)))); (try simp only [Act.put, List.setIfInBounds_toArray, List.set_cons_zero, List.set_cons_succ])
        refine tk_yes 7 (v := ?_) rfl (by kernel_rfl) (by kernel_rfl) (by kernel_rfl) (fun _ _ _ h => h) (by kernel_rfl) (by assumption) ?_ ?_; rotate_left; (focus (intro w hSw; (try dsimp only at hSw); go_simp; (first | done | (with_reducible rfl)))); (try simp only [Act.put, List.setIfInBounds_toArray, List.set_cons_zero, List.set_cons_succ])
        refine tk_yes 9 (v := ?_) rfl (by kernel_rfl) (by kernel_rfl) (by kernel_rfl) (fun _ _ _ h => h) (by kernel_rfl) (by assumption) ?_ ?_; rotate_left; (focus (intro w hSw; (try dsimp only at hSw); go_simp; (first | done | (with_reducible rfl)))); (try simp only [Act.put, List.setIfInBounds_toArray, List.set_cons_zero, List.set_cons_succ])
        refine tk_call 8 rfl (by kernel_rfl) (by kernel_rfl) (fun KW hKW => ?_); go_simp; go_at_call 63; refine (K1.out _ (by repeat (first | exact Below.refl _ _ | assumption | refine bel_drew ?_ | refine bel_trans ?_ (by assumption)))).mono ?_; rintro e u1 ⟨rfl, z1⟩; have t1 := bel_trans (bel_drew hbel) z1; refine hKW.out _ _ ?_ (fun hHeld => ?_); (focus ((try dsimp only); exact hS.out _ (by repeat (first | exact Below.refl _ _ | assumption | refine bel_drew ?_ | refine bel_trans ?_ (by assumption))))); clear hKW KW; (try simp only [Act.put, List.setIfInBounds_toArray, List.set_cons_zero, List.set_cons_succ])
        refine tk_yes 10 (v := ?_) rfl (by kernel_rfl) (by kernel_rfl) (by kernel_rfl) (fun _ _ _ h => h) (by kernel_rfl) (by assumption) ?_ ?_; rotate_left; (focus (intro w hSw; (try dsimp only at hSw); go_simp; (first | done | (with_reducible rfl)))); (try simp only [Act.put, List.setIfInBounds_toArray, List.set_cons_zero, List.set_cons_succ])
        refine wpAnyH_done (by kernel_rfl) ?_ _
        go_wp2_with fail
        go_loopw [4, 5, 6] (fun sum has k wr => FitIn V ts m.1 sum has k wr) (fun _ _ k _ => tn - (intOf k).toNat)
        case atStart => exact ⟨0, false, Nat.zero_le _, rfl, rfl, rfl, nofun, fun k hk => absurd hk (by omega), by exact (by repeat (first | exact Below.refl _ _ | assumption | refine bel_drew ?_ | refine bel_trans ?_ (by assumption)))⟩
        case round =>
          obtain ⟨k, b, hk, rfl, rfl, rfl, hb1, hall, hbel2⟩ := hrel
          rw [HTL.out] at hk
          have HALL := Lib.hid hall
          have HB1 := Lib.hid hb1
          have hsb := SK.tsum_bd hall
          clear hall hb1 d0 d3
          obtain ⟨d0, d3⟩ := HA.out _ hbel2
          obtain ⟨y0, y1, y2, y3⟩ := HX.out _ hbel2
          have k1 : (0 : Int) ≤ (k : Int) := by omega
          by_cases hlt2 : (k : Int) < tn
          · have k2 : (k : Int) < (tn : Int) := hlt2
            obtain ⟨b0, off, rfl, hb0, hct⟩ := HT.out (by omega)
            obtain ⟨x0, x1, x2, x3, x4⟩ := (hct k (by omega)).keep hbel2 hb0
            obtain ⟨t, ht⟩ : ∃ t, ts.getD k SK.t0 = t := ⟨_, rfl⟩
            rw [ht] at x0 x1 x2 x3 x4
            have HC : Hid (SK.cl ts k = t.2.1) := Lib.hid (by rw [← ht]; rfl)
            have HN : Hid (SK.cnt ts k = t.2.2.1) := Lib.hid (by rw [← ht]; rfl)
            clear ht hct
            by_cases hq : t.2.1 = m.1
            · have q2 : (t.2.1 == m.1) = true := by simpa using hq
              by_cases hc1 : t.2.2.1 < 1
              · have q3 : decide (t.2.2.1 < 1) = true := decide_eq_true hc1
                clear hq
                go_wp2_with fail
                go_quiet (fail)
                go_wp2_with fail
                go_ret
                exact givesFit_false (HBE.out _ (by exact (by repeat (first | exact Below.refl _ _ | assumption | refine bel_drew ?_ | refine bel_drewN ?_ _ | refine bel_alloc ?_ _ | refine bel_set ?_ (by first | (dsimp only; omega) | (simp; done) | (simp; omega)) _ | refine bel_trans ?_ (by assumption)))))
              · have q3 : decide (t.2.2.1 < 1) = false := decide_eq_false hc1
                by_cases hc2 : 1048576 < t.2.2.1
                · have q4 : decide (1048576 < t.2.2.1) = true := decide_eq_true hc2
                  clear hq
                  go_wp2_with fail
                  go_quiet (fail)
                  go_wp2_with fail
                  go_ret
                  exact givesFit_false (HBE.out _ (by exact (by repeat (first | exact Below.refl _ _ | assumption | refine bel_drew ?_ | refine bel_drewN ?_ _ | refine bel_alloc ?_ _ | refine bel_set ?_ (by first | (dsimp only; omega) | (simp; done) | (simp; omega)) _ | refine bel_trans ?_ (by assumption)))))
                · have q4 : decide (1048576 < t.2.2.1) = false := decide_eq_false hc2
                  have HE : Hid (SK.tsum ts m.1 (k + 1) = SK.tsum ts m.1 k + t.2.2.1) := Lib.hid (by
                    show (if SK.cl ts k = m.1 then _ else _) = _
                    rw [HC.out, HN.out, if_pos hq])
                  have HE2 : Hid (∃ k', k' < k + 1 ∧ SK.cl ts k' = m.1) := Lib.hid ⟨k, by omega, HC.out.trans hq⟩
                  have HE3 : Hid (∀ k', k' < k + 1 → SK.cl ts k' = m.1 → 1 ≤ SK.cnt ts k' ∧ SK.cnt ts k' ≤ 1048576) := Lib.hid (fun k' h' he => by
                    rcases Nat.lt_or_ge k' k with h1 | h1
                    · exact HALL.out k' h1 he
                    · obtain rfl : k' = k := by omega
                      rw [HN.out]; omega)
                  generalize SK.tsum ts m.1 k = sm at *
                  have wf : IntKind.i64.wrap (sm + t.2.2.1) = sm + t.2.2.1 := IntWalk.i64_in _ (by omega)
                  clear hq hc1 hc2
                  go_wp2_with fail
                  go_quiet (fail)
                  go_wp2_with fail
                  go_roundw
                  case rel => exact ⟨k + 1, true, by rw [HTL.out]; omega, by go_num, by rw [HE.out], rfl, fun _ => HE2.out, HE3.out, (by repeat (first | exact Below.refl _ _ | assumption | refine bel_drew ?_ | refine bel_drewN ?_ _ | refine bel_alloc ?_ _ | refine bel_set ?_ (by first | (dsimp only; omega) | (simp; done) | (simp; omega)) _ | refine bel_trans ?_ (by assumption)))⟩
                  case measure => simp [intOf]; omega
            · have q2 : (t.2.1 == m.1) = false := by simpa using hq
              have HE : Hid (SK.tsum ts m.1 (k + 1) = SK.tsum ts m.1 k) := Lib.hid (by
                show (if SK.cl ts k = m.1 then _ else _) = _
                rw [HC.out, if_neg hq])
              have HE3 : Hid (∀ k', k' < k + 1 → SK.cl ts k' = m.1 → 1 ≤ SK.cnt ts k' ∧ SK.cnt ts k' ≤ 1048576) := Lib.hid (fun k' h' he => by
                rcases Nat.lt_or_ge k' k with h1 | h1
                · exact HALL.out k' h1 he
                · obtain rfl : k' = k := by omega
                  exact absurd (HC.out.symm.trans he) hq)
              have HB2 : Hid (b = true → ∃ k', k' < k + 1 ∧ SK.cl ts k' = m.1) := Lib.hid (fun hb => by
                obtain ⟨k', h1, h2⟩ := HB1.out hb
                exact ⟨k', by omega, h2⟩)
              generalize SK.tsum ts m.1 k = sm at *
              clear hq
              go_wp2_with fail
              go_quiet (fail)
              go_wp2_with fail
              go_roundw
              case rel => exact ⟨k + 1, b, by rw [HTL.out]; omega, by go_num, by rw [HE.out], rfl, HB2.out, HE3.out, (by repeat (first | exact Below.refl _ _ | assumption | refine bel_drew ?_ | refine bel_drewN ?_ _ | refine bel_alloc ?_ _ | refine bel_set ?_ (by first | (dsimp only; omega) | (simp; done) | (simp; omega)) _ | refine bel_trans ?_ (by assumption)))⟩
              case measure => simp [intOf]; omega
          · obtain rfl : k = tn := by omega
            have HSM2 : Hid (SK.tsum ts m.1 k = m.2.2.2 → SK.tsum ts m.1 ts.length = m.2.2.2) := Lib.hid (fun h1 => by rw [HTL.out, h1])
            generalize SK.tsum ts m.1 k = sm at *
            by_cases hs : sm = m.2.2.2
            · have q3 : (sm == m.2.2.2) = true := by simpa using hs
              have HS3 := Lib.hid (HSM2.out hs)
              clear HSM2
              by_cases hf : (b = true ∨ m.2.2.1 ≤ 0)
              · have HF : Hid (∀ i', i' < j + 1 → SK.FitM ts ms i') := Lib.hid (fun i' h' => by
                  rcases Nat.lt_or_ge i' j with h1 | h1
                  · exact HD.out i' h1
                  · obtain rfl : i' = j := by omega
                    unfold SK.FitM
                    rw [hmm.out, HTL.out]
                    refine ⟨HR.out, HALL.out, by rw [← HTL.out]; exact HS3.out, ?_⟩
                    rcases hf with hf | hf
                    · exact .inl (HB1.out hf)
                    · exact .inr hf)
                rcases b with _ | _
                · have q4 : decide (0 < m.2.2.1) = false := decide_eq_false (by rcases hf with hf | hf; (exact absurd hf (by simp)); omega)
                  clear hf
                  go_wp2_with fail
                  go_roundw
                  case rel => exact ⟨j + 1, by rw [HML.out]; omega, by go_num, HF.out, by exact (by repeat (first | exact Below.refl _ _ | assumption | refine bel_drew ?_ | refine bel_trans ?_ (by assumption)))⟩
                  case measure => simp [intOf]; omega
                · clear hf
                  go_wp2_with fail
                  go_roundw
                  case rel => exact ⟨j + 1, by rw [HML.out]; omega, by go_num, HF.out, by exact (by repeat (first | exact Below.refl _ _ | assumption | refine bel_drew ?_ | refine bel_trans ?_ (by assumption)))⟩
                  case measure => simp [intOf]; omega
              · obtain rfl : b = false := by rcases b with _ | _; rfl; exact absurd (.inl rfl) hf
                have q4 : decide (0 < m.2.2.1) = true := decide_eq_true (by rcases Int.lt_or_le 0 m.2.2.1 with h | h; exact h; exact absurd (.inr h) hf)
                clear hf
                go_wp2_with fail
                go_ret
                exact givesFit_false (HBE.out _ (by exact (by repeat (first | exact Below.refl _ _ | assumption | refine bel_drew ?_ | refine bel_drewN ?_ _ | refine bel_alloc ?_ _ | refine bel_set ?_ (by first | (dsimp only; omega) | (simp; done) | (simp; omega)) _ | refine bel_trans ?_ (by assumption)))))
            · have q3 : (sm == m.2.2.2) = false := by simpa using hs
              go_wp2_with fail
              go_ret
              exact givesFit_false (HBE.out _ (by exact (by repeat (first | exact Below.refl _ _ | assumption | refine bel_drew ?_ | refine bel_drewN ?_ _ | refine bel_alloc ?_ _ | refine bel_set ?_ (by first | (dsimp only; omega) | (simp; done) | (simp; omega)) _ | refine bel_trans ?_ (by assumption)))))
      · have q1 : (r == (j : Int)) = false := by simpa using hrj
        clear hrj hr
        go_wp2_with fail
        refine wp_region_held_drew (S := (fun W : World => W.cell? ⟨p, 0, none⟩ = some (.slice TA tn tc) ∧ W.cell? ⟨p, 3, none⟩ = some (.slice (some ⟨b', off', none⟩) mn mc) ∧ W.cell? ⟨b', off' + j * 4, none⟩ = some (.int .i64 m.1))) (by kernel_rfl) ?_ (fun hHeld => ?_)
        focus ((try dsimp only); exact hS.out _ (by repeat (first | exact Below.refl _ _ | assumption | refine bel_drew ?_ | refine bel_trans ?_ (by assumption))))
        refine tk_yes 0 (v := ?_) rfl (by kernel_rfl) (by kernel_rfl) (by kernel_rfl) (fun _ _ _ h => h) (by kernel_rfl) (by assumption) ?_ ?_; rotate_left; (focus (intro w hSw; (try dsimp only at hSw); go_simp; (first | done | (with_reducible rfl)))); (try simp only [Act.put, List.setIfInBounds_toArray, List.set_cons_zero, List.set_cons_succ])
        refine tk_yes 1 (v := ?_) rfl (by kernel_rfl) (by kernel_rfl) (by kernel_rfl) (fun _ _ _ h => h) (by kernel_rfl) (by assumption) ?_ ?_; rotate_left; (focus (intro w hSw; (try dsimp only at hSw); go_simp; (first | done | (with_reducible rfl)))); (try simp only [Act.put, List.setIfInBounds_toArray, List.set_cons_zero, List.set_cons_succ])
        refine tk_yes 2 (v := ?_) rfl (by kernel_rfl) (by kernel_rfl) (by kernel_rfl) (fun _ _ _ h => h) (by kernel_rfl) (by assumption) ?_ ?_; rotate_left; (focus (intro w hSw; (try dsimp only at hSw); go_simp; (first | done | (with_reducible rfl)))); (try simp only [Act.put, List.setIfInBounds_toArray, List.set_cons_zero, List.set_cons_succ])
        refine tk_yes 3 (v := ?_) rfl (by kernel_rfl) (by kernel_rfl) (by kernel_rfl) (fun _ _ _ h => h) (by kernel_rfl) (by assumption) ?_ ?_; rotate_left; (focus (intro w hSw; (try dsimp only at hSw); go_simp; (first | done | (with_reducible rfl)))); (try simp only [Act.put, List.setIfInBounds_toArray, List.set_cons_zero, List.set_cons_succ])
        refine tk_yes 4 (v := ?_) rfl (by kernel_rfl) (by kernel_rfl) (by kernel_rfl) (fun _ _ _ h => h) (by kernel_rfl) (by assumption) ?_ ?_; rotate_left; (focus (intro w hSw; (try dsimp only at hSw); go_simp; (first | done | (with_reducible rfl)))); (try simp only [Act.put, List.setIfInBounds_toArray, List.set_cons_zero, List.set_cons_succ])
        refine tk_yes 5 (v := ?_) rfl (by kernel_rfl) (by kernel_rfl) (by kernel_rfl) (fun _ _ _ h => h) (by kernel_rfl) (by assumption) ?_ ?_; rotate_left; (focus (intro w hSw; (try dsimp only at hSw); go_simp; (first | done | (with_reducible rfl)))); (try simp only [Act.put, List.setIfInBounds_toArray, List.set_cons_zero, List.set_cons_succ])
        refine tk_yes 6 (v := ?_) rfl (by kernel_rfl) (by kernel_rfl) (by kernel_rfl) (fun _ _ _ h => h) (by kernel_rfl) (by assumption) ?_ ?_; rotate_left; (focus (intro w hSw; (try dsimp only at hSw); go_simp; (first | done | (with_reducible rfl)))); (try simp only [Act.put, List.setIfInBounds_toArray, List.set_cons_zero, List.set_cons_succ])
        refine tk_yes 7 (v := ?_) rfl (by kernel_rfl) (by kernel_rfl) (by kernel_rfl) (fun _ _ _ h => h) (by kernel_rfl) (by assumption) ?_ ?_; rotate_left; (focus (intro w hSw; (try dsimp only at hSw); go_simp; (first | done | (with_reducible rfl)))); (try simp only [Act.put, List.setIfInBounds_toArray, List.set_cons_zero, List.set_cons_succ])
        refine tk_yes 9 (v := ?_) rfl (by kernel_rfl) (by kernel_rfl) (by kernel_rfl) (fun _ _ _ h => h) (by kernel_rfl) (by assumption) ?_ ?_; rotate_left; (focus (intro w hSw; (try dsimp only at hSw); go_simp; (first | done | (with_reducible rfl)))); (try simp only [Act.put, List.setIfInBounds_toArray, List.set_cons_zero, List.set_cons_succ])
        refine tk_call 8 rfl (by kernel_rfl) (by kernel_rfl) (fun KW hKW => ?_); go_simp; go_at_call 63; refine (K1.out _ (by repeat (first | exact Below.refl _ _ | assumption | refine bel_drew ?_ | refine bel_trans ?_ (by assumption)))).mono ?_; rintro e u1 ⟨rfl, z1⟩; have t1 := bel_trans (bel_drew hbel) z1; refine hKW.out _ _ ?_ (fun hHeld => ?_); (focus ((try dsimp only); exact hS.out _ (by repeat (first | exact Below.refl _ _ | assumption | refine bel_drew ?_ | refine bel_trans ?_ (by assumption))))); clear hKW KW; (try simp only [Act.put, List.setIfInBounds_toArray, List.set_cons_zero, List.set_cons_succ])
        refine tk_yes 10 (v := ?_) rfl (by kernel_rfl) (by kernel_rfl) (by kernel_rfl) (fun _ _ _ h => h) (by kernel_rfl) (by assumption) ?_ ?_; rotate_left; (focus (intro w hSw; (try dsimp only at hSw); go_simp; (first | done | (with_reducible rfl)))); (try simp only [Act.put, List.setIfInBounds_toArray, List.set_cons_zero, List.set_cons_succ])
        refine wpAnyH_done (by kernel_rfl) ?_ _
        go_wp2_with fail
        go_ret
        exact givesFit_false (HBE.out _ (by exact (by repeat (first | exact Below.refl _ _ | assumption | refine bel_drew ?_ | refine bel_trans ?_ (by assumption)))))
    · have HF : Hid (∀ i', i' < ms.length → SK.FitM ts ms i') := Lib.hid (fun i' h' => HD.out i' (by rw [HML.out] at h'; omega))
      clear HD
      go_wp2_with fail
      go_loopw [7] (fun i wr => FitEnd V ts ms i wr) (fun i _ => tn - (intOf i).toNat)
      case atStart => exact ⟨0, Nat.zero_le _, rfl, fun j hj => absurd hj (by omega), hbel⟩
      case round =>
        obtain ⟨k, hk, rfl, hdone, hbel2⟩ := hrel
        rw [HTL.out] at hk
        have HD := Lib.hid hdone
        clear hdone d0 d3
        obtain ⟨d0, d3⟩ := HA.out _ hbel2
        have k1 : (0 : Int) ≤ (k : Int) := by omega
        by_cases hlt2 : (k : Int) < tn
        · have k2 : (k : Int) < (tn : Int) := hlt2
          obtain ⟨b0, off, rfl, hb0, hct⟩ := HT.out (by omega)
          have HX : Hid (∀ W, Below V.heap.size V W → TickCells W b0 (off + k * 5) (ts.getD k SK.t0)) := Lib.hid (fun W hW => (hct k (by omega)).keep hW hb0)
          obtain ⟨t, ht⟩ : ∃ t, ts.getD k SK.t0 = t := ⟨_, rfl⟩
          rw [ht] at HX
          have HC : Hid (SK.cl ts k = t.2.1) := Lib.hid (by rw [← ht]; rfl)
          clear ht hct
          obtain ⟨r, hr⟩ : ∃ r, SK.member ms t.2.1 = r := ⟨_, rfl⟩
          have K1 := KM.out t.2.1
          rw [hr] at K1
          replace K1 := Lib.hid K1
          replace hr := Lib.hid hr
          have hS : Hid (∀ W : World, Below V.heap.size V W → (fun W : World => W.cell? ⟨p, 0, none⟩ = some (.slice (some ⟨b0, off, none⟩) tn tc) ∧ W.cell? ⟨p, 3, none⟩ = some (.slice MA mn mc) ∧ W.cell? ⟨b0, off + k * 5 + 1, none⟩ = some (.int .i64 t.2.1)) W) := Lib.hid (fun W hW => ⟨(HA.out W hW).1, (HA.out W hW).2, (HX.out W hW).2.1⟩)
          by_cases hr0 : r < 0
          · have q3 : decide (r < 0) = true := decide_eq_true hr0
            go_wp2_with fail
            refine wp_region_held_drew (S := (fun W : World => W.cell? ⟨p, 0, none⟩ = some (.slice (some ⟨b0, off, none⟩) tn tc) ∧ W.cell? ⟨p, 3, none⟩ = some (.slice MA mn mc) ∧ W.cell? ⟨b0, off + k * 5 + 1, none⟩ = some (.int .i64 t.2.1))) (by kernel_rfl) ?_ (fun hHeld => ?_)
            focus ((try dsimp only); exact hS.out _ (by repeat (first | exact Below.refl _ _ | assumption | refine bel_drew ?_ | refine bel_trans ?_ (by assumption))))
            refine tk_yes 0 (v := ?_) rfl (by kernel_rfl) (by kernel_rfl) (by kernel_rfl) (fun _ _ _ h => h) (by kernel_rfl) (by assumption) ?_ ?_; rotate_left; (focus (intro w hSw; (try dsimp only at hSw); go_simp; (first | done | (with_reducible rfl)))); (try simp only [Act.put, List.setIfInBounds_toArray, List.set_cons_zero, List.set_cons_succ])
            refine tk_yes 1 (v := ?_) rfl (by kernel_rfl) (by kernel_rfl) (by kernel_rfl) (fun _ _ _ h => h) (by kernel_rfl) (by assumption) ?_ ?_; rotate_left; (focus (intro w hSw; (try dsimp only at hSw); go_simp; (first | done | (with_reducible rfl)))); (try simp only [Act.put, List.setIfInBounds_toArray, List.set_cons_zero, List.set_cons_succ])
            refine tk_yes 2 (v := ?_) rfl (by kernel_rfl) (by kernel_rfl) (by kernel_rfl) (fun _ _ _ h => h) (by kernel_rfl) (by assumption) ?_ ?_; rotate_left; (focus (intro w hSw; (try dsimp only at hSw); go_simp; (first | done | (with_reducible rfl)))); (try simp only [Act.put, List.setIfInBounds_toArray, List.set_cons_zero, List.set_cons_succ])
            refine tk_yes 3 (v := ?_) rfl (by kernel_rfl) (by kernel_rfl) (by kernel_rfl) (fun _ _ _ h => h) (by kernel_rfl) (by assumption) ?_ ?_; rotate_left; (focus (intro w hSw; (try dsimp only at hSw); go_simp; (first | done | (with_reducible rfl)))); (try simp only [Act.put, List.setIfInBounds_toArray, List.set_cons_zero, List.set_cons_succ])
            refine tk_yes 4 (v := ?_) rfl (by kernel_rfl) (by kernel_rfl) (by kernel_rfl) (fun _ _ _ h => h) (by kernel_rfl) (by assumption) ?_ ?_; rotate_left; (focus (intro w hSw; (try dsimp only at hSw); go_simp; (first | done | (with_reducible rfl)))); (try simp only [Act.put, List.setIfInBounds_toArray, List.set_cons_zero, List.set_cons_succ])
            refine tk_yes 5 (v := ?_) rfl (by kernel_rfl) (by kernel_rfl) (by kernel_rfl) (fun _ _ _ h => h) (by kernel_rfl) (by assumption) ?_ ?_; rotate_left; (focus (intro w hSw; (try dsimp only at hSw); go_simp; (first | done | (with_reducible rfl)))); (try simp only [Act.put, List.setIfInBounds_toArray, List.set_cons_zero, List.set_cons_succ])
            refine tk_yes 6 (v := ?_) rfl (by kernel_rfl) (by kernel_rfl) (by kernel_rfl) (fun _ _ _ h => h) (by kernel_rfl) (by assumption) ?_ ?_; rotate_left; (focus (intro w hSw; (try dsimp only at hSw); go_simp; (first | done | (with_reducible rfl)))); (try simp only [Act.put, List.setIfInBounds_toArray, List.set_cons_zero, List.set_cons_succ])
            refine tk_yes 7 (v := ?_) rfl (by kernel_rfl) (by kernel_rfl) (by kernel_rfl) (fun _ _ _ h => h) (by kernel_rfl) (by assumption) ?_ ?_; rotate_left; (focus (intro w hSw; (try dsimp only at hSw); go_simp; (first | done | (with_reducible rfl)))); (try simp only [Act.put, List.setIfInBounds_toArray, List.set_cons_zero, List.set_cons_succ])
            refine tk_call 8 rfl (by kernel_rfl) (by kernel_rfl) (fun KW hKW => ?_); go_simp; go_at_call 63; refine (K1.out _ (by repeat (first | exact Below.refl _ _ | assumption | refine bel_drew ?_ | refine bel_trans ?_ (by assumption)))).mono ?_; rintro e u1 ⟨rfl, z1⟩; have t1 := bel_trans (bel_drew hbel2) z1; refine hKW.out _ _ ?_ (fun hHeld => ?_); (focus ((try dsimp only); exact hS.out _ (by repeat (first | exact Below.refl _ _ | assumption | refine bel_drew ?_ | refine bel_trans ?_ (by assumption))))); clear hKW KW; (try simp only [Act.put, List.setIfInBounds_toArray, List.set_cons_zero, List.set_cons_succ])
            refine tk_yes 9 (v := ?_) rfl (by kernel_rfl) (by kernel_rfl) (by kernel_rfl) (fun _ _ _ h => h) (by kernel_rfl) (by assumption) ?_ ?_; rotate_left; (focus (intro w hSw; (try dsimp only at hSw); go_simp; (first | done | (with_reducible rfl)))); (try simp only [Act.put, List.setIfInBounds_toArray, List.set_cons_zero, List.set_cons_succ])
            refine wpAnyH_done (by kernel_rfl) ?_ _
            go_wp2_with fail
            go_ret
            exact givesFit_false (HBE.out _ (by exact (by repeat (first | exact Below.refl _ _ | assumption | refine bel_drew ?_ | refine bel_trans ?_ (by assumption)))))
          · have q3 : decide (r < 0) = false := decide_eq_false hr0
            have HE : Hid (∀ i', i' < k + 1 → 0 ≤ SK.member ms (SK.cl ts i')) := Lib.hid (fun i' h' => by
              rcases Nat.lt_or_ge i' k with h1 | h1
              · exact HD.out i' h1
              · obtain rfl : i' = k := by omega
                rw [HC.out, hr.out]; omega)
            go_wp2_with fail
            refine wp_region_held_drew (S := (fun W : World => W.cell? ⟨p, 0, none⟩ = some (.slice (some ⟨b0, off, none⟩) tn tc) ∧ W.cell? ⟨p, 3, none⟩ = some (.slice MA mn mc) ∧ W.cell? ⟨b0, off + k * 5 + 1, none⟩ = some (.int .i64 t.2.1))) (by kernel_rfl) ?_ (fun hHeld => ?_)
            focus ((try dsimp only); exact hS.out _ (by repeat (first | exact Below.refl _ _ | assumption | refine bel_drew ?_ | refine bel_trans ?_ (by assumption))))
            refine tk_yes 0 (v := ?_) rfl (by kernel_rfl) (by kernel_rfl) (by kernel_rfl) (fun _ _ _ h => h) (by kernel_rfl) (by assumption) ?_ ?_; rotate_left; (focus (intro w hSw; (try dsimp only at hSw); go_simp; (first | done | (with_reducible rfl)))); (try simp only [Act.put, List.setIfInBounds_toArray, List.set_cons_zero, List.set_cons_succ])
            refine tk_yes 1 (v := ?_) rfl (by kernel_rfl) (by kernel_rfl) (by kernel_rfl) (fun _ _ _ h => h) (by kernel_rfl) (by assumption) ?_ ?_; rotate_left; (focus (intro w hSw; (try dsimp only at hSw); go_simp; (first | done | (with_reducible rfl)))); (try simp only [Act.put, List.setIfInBounds_toArray, List.set_cons_zero, List.set_cons_succ])
            refine tk_yes 2 (v := ?_) rfl (by kernel_rfl) (by kernel_rfl) (by kernel_rfl) (fun _ _ _ h => h) (by kernel_rfl) (by assumption) ?_ ?_; rotate_left; (focus (intro w hSw; (try dsimp only at hSw); go_simp; (first | done | (with_reducible rfl)))); (try simp only [Act.put, List.setIfInBounds_toArray, List.set_cons_zero, List.set_cons_succ])
            refine tk_yes 3 (v := ?_) rfl (by kernel_rfl) (by kernel_rfl) (by kernel_rfl) (fun _ _ _ h => h) (by kernel_rfl) (by assumption) ?_ ?_; rotate_left; (focus (intro w hSw; (try dsimp only at hSw); go_simp; (first | done | (with_reducible rfl)))); (try simp only [Act.put, List.setIfInBounds_toArray, List.set_cons_zero, List.set_cons_succ])
            refine tk_yes 4 (v := ?_) rfl (by kernel_rfl) (by kernel_rfl) (by kernel_rfl) (fun _ _ _ h => h) (by kernel_rfl) (by assumption) ?_ ?_; rotate_left; (focus (intro w hSw; (try dsimp only at hSw); go_simp; (first | done | (with_reducible rfl)))); (try simp only [Act.put, List.setIfInBounds_toArray, List.set_cons_zero, List.set_cons_succ])
            refine tk_yes 5 (v := ?_) rfl (by kernel_rfl) (by kernel_rfl) (by kernel_rfl) (fun _ _ _ h => h) (by kernel_rfl) (by assumption) ?_ ?_; rotate_left; (focus (intro w hSw; (try dsimp only at hSw); go_simp; (first | done | (with_reducible rfl)))); (try simp only [Act.put, List.setIfInBounds_toArray, List.set_cons_zero, List.set_cons_succ])
            refine tk_yes 6 (v := ?_) rfl (by kernel_rfl) (by kernel_rfl) (by kernel_rfl) (fun _ _ _ h => h) (by kernel_rfl) (by assumption) ?_ ?_; rotate_left; (focus (intro w hSw; (try dsimp only at hSw); go_simp; (first | done | (with_reducible rfl)))); (try simp only [Act.put, List.setIfInBounds_toArray, List.set_cons_zero, List.set_cons_succ])
            refine tk_yes 7 (v := ?_) rfl (by kernel_rfl) (by kernel_rfl) (by kernel_rfl) (fun _ _ _ h => h) (by kernel_rfl) (by assumption) ?_ ?_; rotate_left; (focus (intro w hSw; (try dsimp only at hSw); go_simp; (first | done | (with_reducible rfl)))); (try simp only [Act.put, List.setIfInBounds_toArray, List.set_cons_zero, List.set_cons_succ])
            refine tk_call 8 rfl (by kernel_rfl) (by kernel_rfl) (fun KW hKW => ?_); go_simp; go_at_call 63; refine (K1.out _ (by repeat (first | exact Below.refl _ _ | assumption | refine bel_drew ?_ | refine bel_trans ?_ (by assumption)))).mono ?_; rintro e u1 ⟨rfl, z1⟩; have t1 := bel_trans (bel_drew hbel2) z1; refine hKW.out _ _ ?_ (fun hHeld => ?_); (focus ((try dsimp only); exact hS.out _ (by repeat (first | exact Below.refl _ _ | assumption | refine bel_drew ?_ | refine bel_trans ?_ (by assumption))))); clear hKW KW; (try simp only [Act.put, List.setIfInBounds_toArray, List.set_cons_zero, List.set_cons_succ])
            refine tk_yes 9 (v := ?_) rfl (by kernel_rfl) (by kernel_rfl) (by kernel_rfl) (fun _ _ _ h => h) (by kernel_rfl) (by assumption) ?_ ?_; rotate_left; (focus (intro w hSw; (try dsimp only at hSw); go_simp; (first | done | (with_reducible rfl)))); (try simp only [Act.put, List.setIfInBounds_toArray, List.set_cons_zero, List.set_cons_succ])
            refine wpAnyH_done (by kernel_rfl) ?_ _
            go_wp2_with fail
            go_roundw
            case rel => exact ⟨k + 1, by rw [HTL.out]; omega, by go_num, HE.out, by exact (by repeat (first | exact Below.refl _ _ | assumption | refine bel_drew ?_ | refine bel_trans ?_ (by assumption)))⟩
            case measure => simp [intOf]; omega
        · have HE : Hid (0 < tn → SK.Fit ts ms) := Lib.hid (fun h0 => ⟨HF.out, fun i' h' => HD.out i' (by rw [HTL.out] at h'; omega), by rw [HTL.out]; exact h0⟩)
          go_wp2_with fail
          go_ret
          exact ⟨_, rfl, fun h0 => HE.out (by simpa using h0), HBE.out _ (by exact (by repeat (first | exact Below.refl _ _ | assumption | refine bel_drew ?_ | refine bel_drewN ?_ _ | refine bel_alloc ?_ _ | refine bel_set ?_ (by first | (dsimp only; omega) | (simp; done) | (simp; omega)) _ | refine bel_trans ?_ (by assumption))))⟩
end Go.Proofs.Ythmjbfocpdiikaa
/-
  Plain: if every member waits or holds nothing, and all may end, some ticket may go.
-/
namespace Go.Proofs.Ythmjbfocpdiikaa
set_option linter.unusedVariables false
namespace SK
open PO
theorem next_nonneg {ts : List Tick} {ms : List Mem} {f w : Int} {k : Nat} (hk : k < ts.length) (h : why ts ms f w (k : Int) = 0) : 0 ≤ next ts ms f w := by
  unfold next
  rcases e : (List.range ts.length).findIdx? (fun i : Nat => decide (why ts ms f w (i : Int) = 0)) with _ | i
  · rw [List.findIdx?_eq_none_iff] at e
    have := e k (by simpa using hk)
    simp [h] at this
  · simp
theorem tsum_ge {ts : List Tick} {id : Int} : ∀ {K k : Nat}, (∀ j, j < K → cl ts j = id → 1 ≤ cnt ts j ∧ cnt ts j ≤ 1048576) → k < K → cl ts k = id → cnt ts k ≤ tsum ts id K
  | 0, k, _, h, _ => absurd h (by omega)
  | K + 1, k, h, hk, hc => by
    have hb := (tsum_bd (ts := ts) (id := id) (k := K) (fun j hj => h j (by omega))).1
    unfold tsum
    by_cases e : k = K
    · rw [if_pos (e ▸ hc)]
      rw [e]
      omega
    · have ih := tsum_ge (K := K) (k := k) (fun j hj => h j (by omega)) (by omega) hc
      split
      · have := h K (by omega) ‹_›
        omega
      · exact ih
def give (m : Mem) (n : Int) : Mem := (m.1, m.2.1, m.2.2.1 + n, m.2.2.2 - n)
theorem getD_set {l : List Mem} {j : Nat} {m : Mem} (hj : j < l.length) (i : Nat) : (l.set j m).getD i m0 = if i = j then m else l.getD i m0 := by
  simp only [List.getD, List.getElem?_set]
  by_cases e : i = j
  · subst e; simp [hj]
  · rw [if_neg (fun h => e h.symm), if_neg e]
theorem need_ok {m : Mem} (h : ok m = true) : need m = m.2.1 - m.2.2.1 := by
  show PA.need _ _ _ = _
  unfold PA.need
  rw [if_pos (show PA.right _ _ _ = true from h)]
theorem sumH_cons (l : List Mem) (a : Nat) (t : List Nat) : sumH l (a :: t) = held l a + sumH l t := by simp [sumH]
theorem sumH_not {l : List Mem} {j : Nat} {m : Mem} (hj : j < l.length) : ∀ X : List Nat, j ∉ X → sumH (l.set j m) X = sumH l X
  | [], _ => rfl
  | a :: t, h => by
    have h1 : a ≠ j := fun e => h (e ▸ List.mem_cons_self)
    have ih := sumH_not (l := l) (m := m) hj t (fun e => h (List.mem_cons_of_mem _ e))
    have e : held (l.set j m) a = held l a := by unfold held; rw [getD_set hj, if_neg h1]
    rw [sumH_cons, sumH_cons, e, ih]
theorem sumH_give {l : List Mem} {j : Nat} {n : Int} (hj : j < l.length) {X : List Nat} (hX : X.Nodup) (h : j ∈ X) : sumH (l.set j (give (l.getD j m0) n)) X = sumH l X + n := by
  have hp := List.perm_cons_erase h
  rw [sumH_perm hp, sumH_perm (l := l) hp]
  have hn : j ∉ X.erase j := fun e => ((hX.mem_erase_iff).1 e).1 rfl
  have := sumH_not (m := give (l.getD j m0) n) hj _ hn
  have e : held (l.set j (give (l.getD j m0) n)) j = held l j + n := by unfold held; rw [getD_set hj, if_pos rfl]; rfl
  rw [sumH_cons, sumH_cons, e, this]
  omega
/-- Behind a grant to one whose whole need is free, all may still end. -/
theorem give_safe {l : List Mem} {f n : Int} {j : Nat} (hs : safe f l = true) (hj : j < l.length) (hn : need (l.getD j m0) ≤ f) (h1 : 1 ≤ n) (h2 : n ≤ (l.getD j m0).2.2.2) : safe (f - n) (l.set j (give (l.getD j m0) n)) = true := by
  have hm := safe_may hs
  obtain ⟨f0, f1, fa⟩ := may_iff.1 hm
  have hok := ok_get fa hj
  have hr := (PA.right_iff _ _ _).1 hok
  have hnd := need_ok hok
  have hok' : ok (give (l.getD j m0) n) = true := (PA.right_iff _ _ _).2 (by unfold give; dsimp only; omega)
  have hnd' : need (give (l.getD j m0) n) = (l.getD j m0).2.1 - ((l.getD j m0).2.2.1 + n) := need_ok hok'
  have hlen : (l.set j (give (l.getD j m0) n)).length = l.length := by simp
  have hall : (l.set j (give (l.getD j m0) n)).all ok = true := all_of (fun i hi => by
    rw [getD_set hj]
    split
    · exact hok'
    · exact ok_get fa (by rwa [hlen] at hi))
  have hm' : may (f - n) (l.set j (give (l.getD j m0) n)) = true := may_iff.2 ⟨by omega, by omega, hall⟩
  refine safe_of_stuck hm' (fun X hX hXl _ hne i hi => ?_)
  have hXl' : ∀ x ∈ X, x < l.length := fun x hx => by have := hXl x hx; rwa [hlen] at this
  have hjX : j ∈ X := by
    rcases next_none' hne j (by rw [hlen]; exact hj) with h | h
    · exact h
    · rw [getD_set hj, if_pos rfl, hnd'] at h
      have := sumH_nonneg hall hXl
      omega
  rw [sumH_give hj hX hjX] at hne
  refine safe_stuck hm hs hXl' (Int.le_refl f) (PO.next_none (fun y hy => ?_)) i (by rwa [hlen] at hi)
  rcases next_none' hne y (by rw [hlen]; exact hy) with h | h
  · exact .inl h
  · by_cases e : y = j
    · exact .inl (e ▸ hjX)
    · rw [getD_set hj, if_neg e] at h
      exact .inr (by omega)
/-- The first ticket of a client that has any. -/
theorem first_of {ts : List Tick} {id : Int} : ∀ k : Nat, k < ts.length → cl ts k = id → ∃ k', k' ≤ k ∧ cl ts k' = id ∧ ∀ i, i < k' → cl ts i ≠ id := by
  intro k
  induction k using Nat.strongRecOn with
  | ind k ih =>
    intro hk hc
    by_cases h : ∃ i, i < k ∧ cl ts i = id
    · obtain ⟨i, h1, h2⟩ := h
      obtain ⟨k', a, b, c⟩ := ih i h1 (by omega) h2
      exact ⟨k', by omega, b, c⟩
    · exact ⟨k, Nat.le_refl _, hc, fun i hi e => h ⟨i, hi, e⟩⟩
theorem ahead_not {ts : List Tick} {k : Nat} (hk : k < ts.length) (h : ∀ i, i < k → cl ts i ≠ cl ts k) : ahead ts k = false := by
  unfold ahead
  rw [List.any_eq_false]
  intro t ht
  obtain ⟨i, hi, rfl⟩ := List.mem_iff_getElem.1 ht
  rw [List.length_take] at hi
  have := h i (by omega)
  have e : (ts.take k)[i].2.1 = cl ts i := by unfold cl; simp [List.getD, show i < ts.length by omega]
  rw [e]
  simpa using this
theorem ahead_yes {ts : List Tick} {k i : Nat} (hk : k < ts.length) (hi : i < k) (h : cl ts i = cl ts k) : ahead ts k = true := by
  unfold ahead
  rw [List.any_eq_true]
  refine ⟨ts[i], ?_, ?_⟩
  · rw [List.mem_take_iff_getElem]
    exact ⟨i, by omega, rfl⟩
  · have e : ts[i].2.1 = cl ts i := by unfold cl; simp [List.getD, show i < ts.length by omega]
    rw [e]; simpa using h
theorem why_zero {ts : List Tick} {ms : List Mem} {f : Int} {j k : Nat} (hF : Fit ts ms) (hs : safe f ms = true) (hj : j < ms.length) (hn : need (ms.getD j m0) ≤ f) (hk : k < ts.length) (hc : cl ts k = (ms.getD j m0).1) (hold : ∀ i, i < k → cl ts i ≠ (ms.getD j m0).1) (hh : k = 0 ∨ 0 < (ms.getD j m0).2.2.1) : why ts ms f 0 (k : Int) = 0 := by
  obtain ⟨F1, F2, F3, F4⟩ := hF.1 j hj
  have hcn := F2 k hk hc
  have hle := tsum_ge F2 hk hc
  rw [F3] at hle
  have hm := safe_may hs
  obtain ⟨f0, f1, fa⟩ := may_iff.1 hm
  have hok := ok_get fa hj
  have hr := (PA.right_iff _ _ _).1 hok
  have hnd := need_ok hok
  have hgs := give_safe hs hj hn hcn.1 hle
  have e1 : ((k : Int)).toNat = k := by omega
  have e2 : ((j : Int)).toNat = j := by omega
  have hbm : bmay f 0 ms (j : Int) (cnt ts k) = true := by
    unfold bmay
    have hb : bad f 0 = false := bad_iff.2 (by omega)
    rw [if_neg (by rw [hb]; simp; omega)]
    have hg : grant (ms.getD j m0) (cnt ts k) = (((ms.getD j m0).2.1, (ms.getD j m0).2.2.1 + cnt ts k, (ms.getD j m0).2.2.2 - cnt ts k), 0) := PA.doo2_yes hok hcn.1 hle
    have ha : after ms (j : Int) (cnt ts k) = (ms.set j (give (ms.getD j m0) (cnt ts k)), true) := by
      unfold after
      rw [if_neg (by omega), e2, hg, if_neg (by simp)]
      rfl
    rw [ha]
    dsimp only
    unfold bsafe
    have hb2 : bad (f - cnt ts k) 0 = false := bad_iff.2 (by omega)
    rw [if_neg (by rw [hb2]; simp), Int.add_zero, hgs]
    rfl
  have a1 : ¬ ((k : Int) < 0 ∨ (ts.length : Int) ≤ (k : Int)) := by omega
  have a2 : ¬ ((j : Int) < 0) := by omega
  have a3 : ¬ (ahead ts k = true) := by rw [ahead_not hk (by rw [hc]; exact hold)]; simp
  have a4 : ¬ (bmay f 0 ms (j : Int) (ts.getD k t0).2.2.1 = false) := by
    show ¬ bmay f 0 ms (j : Int) (cnt ts k) = false
    rw [hbm]; simp
  have a5 : ¬ (0 < (k : Int) ∧ (ms.getD j m0).2.2.1 = 0 ∧ 8 ≤ (ts.getD 0 t0).2.2.2.2) := by
    rintro ⟨b1, b2, _⟩
    rcases hh with h0 | h0
    · rw [h0] at b1; exact absurd b1 (by decide)
    · rw [b2] at h0; exact absurd h0 (by decide)
  unfold why
  rw [if_neg a1, e1, hc, F1, if_neg a2, if_neg a3, e2, if_neg a4, if_neg a5]
theorem some_goes {ts : List Tick} {ms : List Mem} {f : Int} (hF : Fit ts ms) (hs : safe f ms = true) : 0 ≤ next ts ms f 0 := by
  have hm := safe_may hs
  obtain ⟨f0, f1, fa⟩ := may_iff.1 hm
  by_cases hh : ∃ j, j < ms.length ∧ 0 < (ms.getD j m0).2.2.1
  · have hx : ∃ j, j < ms.length ∧ 0 < (ms.getD j m0).2.2.1 ∧ need (ms.getD j m0) ≤ f := by
      apply Classical.byContradiction
      intro hno
      obtain ⟨j, hj, hp⟩ := hh
      have hmem : ∀ x, x ∈ (List.range ms.length).filter (fun i => decide ((ms.getD i m0).2.2.1 ≤ 0)) ↔ x < ms.length ∧ (ms.getD x m0).2.2.1 ≤ 0 := fun x => by
        rw [List.mem_filter, List.mem_range, decide_eq_true_eq]
      have hs0 : 0 ≤ sumH ms ((List.range ms.length).filter (fun i => decide ((ms.getD i m0).2.2.1 ≤ 0))) := sumH_nonneg fa (fun x hx => ((hmem x).1 hx).1)
      have hs1 : sumH ms ((List.range ms.length).filter (fun i => decide ((ms.getD i m0).2.2.1 ≤ 0))) ≤ 0 := by
        have : ∀ d : List Nat, (∀ x ∈ d, (ms.getD x m0).2.2.1 ≤ 0) → sumH ms d ≤ 0 := by
          intro d
          induction d with
          | nil => intro _; simp [sumH]
          | cons a t ih =>
            intro h
            have h1 := ih (fun x hx => h x (List.mem_cons_of_mem _ hx))
            have h2 := h a List.mem_cons_self
            simp [sumH, held] at h1 h2 ⊢
            omega
        exact this _ (fun x hx => ((hmem x).1 hx).2)
      have := safe_stuck hm hs (X := (List.range ms.length).filter (fun i => decide ((ms.getD i m0).2.2.1 ≤ 0))) (fun x hx => ((hmem x).1 hx).1) (Int.le_refl f) (PO.next_none (fun y hy => by
        by_cases hy0 : (ms.getD y m0).2.2.1 ≤ 0
        · exact .inl ((hmem y).2 ⟨hy, hy0⟩)
        · right
          have : ¬ need (ms.getD y m0) ≤ f := fun h => hno ⟨y, hy, by omega, h⟩
          omega)) j hj
      have := ((hmem j).1 this).2
      omega
    obtain ⟨j, hj, hp, hn⟩ := hx
    obtain ⟨F1, F2, F3, F4⟩ := hF.1 j hj
    rcases F4 with ⟨k, hk, hc⟩ | h
    · obtain ⟨k', a, b, c⟩ := first_of k hk hc
      exact next_nonneg (show k' < ts.length by omega) (why_zero hF hs hj hn (by omega) b c (.inr hp))
    · omega
  · have h0 := hF.2.1 0 hF.2.2
    obtain ⟨j, ej, hj⟩ := idx_lt h0
    have hid : (ms.getD j m0).1 = cl ts 0 := by
      unfold idx at ej
      rcases e : ms.findIdx? (fun m => decide (m.1 = cl ts 0)) with _ | i
      · rw [e] at ej; simp at ej
      · rw [e] at ej
        obtain rfl : i = j := by simp only at ej; omega
        rw [List.findIdx?_eq_some_iff_getElem] at e
        have := e.2.1
        rw [getD_at hj]
        simpa using this
    have hn : need (ms.getD j m0) ≤ f := by
      have hmem : ∀ x, x ∈ (List.range ms.length).filter (fun i => decide (need (ms.getD i m0) ≤ f)) ↔ x < ms.length ∧ need (ms.getD x m0) ≤ f := fun x => by
        rw [List.mem_filter, List.mem_range, decide_eq_true_eq]
      have hz : sumH ms ((List.range ms.length).filter (fun i => decide (need (ms.getD i m0) ≤ f))) ≤ 0 := by
        have : ∀ d : List Nat, (∀ x ∈ d, (ms.getD x m0).2.2.1 ≤ 0) → sumH ms d ≤ 0 := by
          intro d
          induction d with
          | nil => intro _; simp [sumH]
          | cons a t ih =>
            intro h
            have h1 := ih (fun x hx => h x (List.mem_cons_of_mem _ hx))
            have h2 := h a List.mem_cons_self
            simp [sumH, held] at h1 h2 ⊢
            omega
        exact this _ (fun x hx => by
          have h1 := ((hmem x).1 hx).1
          apply Classical.byContradiction
          intro h2
          exact hh ⟨x, h1, by omega⟩)
      have := safe_stuck hm hs (X := (List.range ms.length).filter (fun i => decide (need (ms.getD i m0) ≤ f))) (fun x hx => ((hmem x).1 hx).1) (Int.le_refl f) (PO.next_none (fun y hy => by
        by_cases hy0 : need (ms.getD y m0) ≤ f
        · exact .inl ((hmem y).2 ⟨hy, hy0⟩)
        · right; omega)) j hj
      exact ((hmem j).1 this).2
    exact next_nonneg hF.2.2 (why_zero hF hs hj hn hF.2.2 hid.symm (fun i hi => absurd hi (by omega)) (.inl rfl))
end SK
end Go.Proofs.Ythmjbfocpdiikaa
/-
  Plain: a round of grants.
-/
namespace Go.Proofs.Ythmjbfocpdiikaa
set_option linter.unusedVariables false
set_option linter.unusedSimpArgs false
namespace GN
open PO SK
/-- What is left, the members, what is free. -/
structure St where
  left : List Tick
  ms : List Mem
  free : Int
/-- One is passed once more. -/
def bump (t : Tick) : Tick := if t.2.2.2.2 < 1099511627776 then (t.1, t.2.1, t.2.2.1, t.2.2.2.1, t.2.2.2.2 + 1) else t
def gtold (t : Tick) : Tick := (t.1, t.2.1, t.2.2.1, 2, t.2.2.2.2)
def tk (S : St) (k : Nat) : Tick := S.left.getD k t0
def cnt (t : Tick) : Int := t.2.2.1
def mj (S : St) (k : Nat) : Nat := (member S.ms (cl S.left k)).toNat
def gleft (l : List Tick) (k : Nat) : List Tick := (l.take k).map bump ++ l.drop (k + 1)
def gms (S : St) (k : Nat) : List Mem := S.ms.set (mj S k) (give (S.ms.getD (mj S k) m0) (cnt (tk S k)))
def step (S : St) (k : Nat) : St := ⟨gleft S.left k, gms S k, S.free - cnt (tk S k)⟩
def nx (S : St) (w : Int) : Int := SK.next S.left S.ms S.free w
/-- A ticket that may go. -/
structure Goes (S : St) (w : Int) (k : Nat) : Prop where
  lt : k < S.left.length
  mem : member S.ms (cl S.left k) = (mj S k : Int)
  jlt : mj S k < S.ms.length
  f0 : 0 ≤ S.free
  f1 : S.free ≤ 1048576
  n1 : 1 ≤ cnt (tk S k)
  nf : cnt (tk S k) ≤ S.free
  nr : cnt (tk S k) ≤ (S.ms.getD (mj S k) m0).2.2.2
  ok : PA.right (S.ms.getD (mj S k) m0).2.1 (S.ms.getD (mj S k) m0).2.2.1 (S.ms.getD (mj S k) m0).2.2.2 = true
theorem next_cases (ts : List Tick) (ms : List Mem) (f w : Int) : SK.next ts ms f w = -1 ∨ ∃ k : Nat, SK.next ts ms f w = k ∧ k < ts.length ∧ why ts ms f w (k : Int) = 0 := by
  unfold SK.next
  cases e : (List.range ts.length).findIdx? (fun i : Nat => decide (why ts ms f w (i : Int) = 0)) with
  | none => exact .inl rfl
  | some i =>
    right
    rw [List.findIdx?_eq_some_iff_getElem] at e
    obtain ⟨h1, h2, _⟩ := e
    rw [List.length_range] at h1
    refine ⟨i, rfl, h1, ?_⟩
    simpa using h2
theorem goes_of {S : St} {w : Int} {k : Nat} (hk : k < S.left.length) (h : why S.left S.ms S.free w (k : Int) = 0) : Goes S w k := by
  rw [why_at hk] at h
  by_cases h1 : member S.ms (cl S.left k) < 0
  · rw [if_pos h1] at h; omega
  rw [if_neg h1] at h
  by_cases h2 : SK.ahead S.left k = true
  · rw [if_pos h2] at h; omega
  rw [if_neg h2] at h
  by_cases h3 : bmay S.free w S.ms (member S.ms (cl S.left k)) (S.left.getD k t0).2.2.1 = false
  · rw [if_pos h3] at h; omega
  have h4 : bmay S.free w S.ms (member S.ms (cl S.left k)) (S.left.getD k t0).2.2.1 = true := by simpa using h3
  clear h h2 h3
  have hm : member S.ms (cl S.left k) = (mj S k : Int) := by unfold mj; omega
  obtain ⟨j, hj1, hj2⟩ := idx_lt (show 0 ≤ member S.ms (cl S.left k) by omega)
  have hj3 : j = mj S k := by unfold mj member; rw [hj1]; rfl
  rw [hj3] at hj2
  unfold bmay at h4
  split at h4
  · cases h4
  · rename_i h5
    have h6 : bad S.free w = false ∧ ¬ S.free < (S.left.getD k t0).2.2.1 := by
      refine ⟨?_, fun hh => h5 (.inr hh)⟩
      cases hb : bad S.free w
      · rfl
      · exact absurd (.inl hb) h5
    have h7 := bad_iff.1 h6.1
    rw [Bool.and_eq_true] at h4
    have h8 := h4.1
    unfold after at h8
    rw [hm] at h8
    rw [if_neg (by omega)] at h8
    split at h8
    · cases h8
    · rename_i h9
      have h9 : (PO.grant (S.ms.getD (mj S k) m0) (S.left.getD k t0).2.2.1).2 = 0 := by simpa using h9
      unfold PO.grant PA.doo at h9
      split at h9
      · simp at h9
      · rename_i h10
        rw [if_neg (by omega), if_neg (by omega)] at h9
        split at h9
        · simp at h9
        · rename_i h11
          have hr : PA.right (S.ms.getD (mj S k) m0).2.1 (S.ms.getD (mj S k) m0).2.2.1 (S.ms.getD (mj S k) m0).2.2.2 = true := by
            cases hq : PA.right (S.ms.getD (mj S k) m0).2.1 (S.ms.getD (mj S k) m0).2.2.1 (S.ms.getD (mj S k) m0).2.2.2
            · exact absurd (.inl hq) h10
            · rfl
          exact ⟨hk, hm, hj2, h7.1, h7.2.2.1, by unfold cnt tk; have : ¬ (S.left.getD k t0).2.2.1 < 1 := fun hh => h10 (.inr hh); omega, by unfold cnt tk; omega, by unfold cnt tk; omega, hr⟩
theorem goes_nx {S : St} {w : Int} : nx S w = -1 ∨ ∃ k : Nat, nx S w = k ∧ Goes S w k := by
  rcases next_cases S.left S.ms S.free w with h | ⟨k, h1, h2, h3⟩
  · exact .inl h
  · exact .inr ⟨k, h1, goes_of h2 h3⟩
theorem gleft_len {l : List Tick} {k : Nat} (hk : k < l.length) : (gleft l k).length + 1 = l.length := by
  unfold gleft
  rw [List.length_append, List.length_map, List.length_take, List.length_drop]; omega
/-- A round of grants. -/
def run : Nat → Int → St → List Tick × St
  | 0, _, S => ([], S)
  | d + 1, w, S => if nx S w < 0 then ([], S) else (gtold (tk S (nx S w).toNat) :: (run d w (step S (nx S w).toNat)).1, (run d w (step S (nx S w).toNat)).2)
theorem run_no {d : Nat} {w : Int} {S : St} (h : nx S w = -1) : run d w S = ([], S) := by
  cases d with
  | zero => rfl
  | succ d => unfold run; rw [if_pos (by omega)]
theorem run_yes {d : Nat} {w : Int} {S : St} {k : Nat} (h : nx S w = k) : run (d + 1) w S = (gtold (tk S k) :: (run d w (step S k)).1, (run d w (step S k)).2) := by
  conv => lhs; unfold run
  rw [if_neg (by omega), h, Int.toNat_natCast]
theorem step_len {S : St} {w : Int} {k : Nat} (h : Goes S w k) : (step S k).left.length + 1 = S.left.length := gleft_len h.lt
theorem step_ms {S : St} {k : Nat} : (step S k).ms.length = S.ms.length := by show (gms S k).length = _; unfold gms; rw [List.length_set]
/-- With as many rounds as tickets, or more, none may go behind it, and what was granted and what is free are what was free. -/
theorem run_end : ∀ (d : Nat) (w : Int) (S : St), S.left.length ≤ d → nx (run d w S).2 w = -1 ∧ (run d w S).1.length + (run d w S).2.left.length = S.left.length ∧ ((run d w S).1.map cnt).sum + (run d w S).2.free = S.free ∧ (run d w S).2.ms.length = S.ms.length
  | 0, w, S, h => by
    rcases goes_nx (S := S) (w := w) with h1 | ⟨k, h1, h2⟩
    · exact ⟨h1, by simp [run], by simp [run], rfl⟩
    · have := h2.lt; omega
  | d + 1, w, S, h => by
    rcases goes_nx (S := S) (w := w) with h1 | ⟨k, h1, h2⟩
    · rw [run_no h1]; exact ⟨h1, by simp, by simp, rfl⟩
    · rw [run_yes h1]
      have h3 := step_len h2
      obtain ⟨i1, i2, i3, i4⟩ := run_end d w (step S k) (by omega)
      refine ⟨i1, by simp only [List.length_cons]; omega, ?_, by rw [i4, step_ms]⟩
      have e1 : cnt (gtold (tk S k)) = cnt (tk S k) := rfl
      have e2 : (step S k).free = S.free - cnt (tk S k) := rfl
      simp only [List.map_cons, List.sum_cons]
      rw [e1]; omega
theorem run_fuel : ∀ (d d' : Nat) (w : Int) (S : St), S.left.length ≤ d → S.left.length ≤ d' → run d w S = run d' w S
  | 0, d', w, S, h, _ => by
    rcases goes_nx (S := S) (w := w) with h1 | ⟨k, h1, h2⟩
    · rw [run_no h1, run_no h1]
    · have := h2.lt; omega
  | d + 1, 0, w, S, _, h => by
    rcases goes_nx (S := S) (w := w) with h1 | ⟨k, h1, h2⟩
    · rw [run_no h1, run_no h1]
    · have := h2.lt; omega
  | d + 1, d' + 1, w, S, h, h' => by
    rcases goes_nx (S := S) (w := w) with h1 | ⟨k, h1, h2⟩
    · rw [run_no h1, run_no h1]
    · have h3 := step_len h2
      rw [run_yes h1, run_yes h1, run_fuel d d' w (step S k) (by omega) (by omega)]
end GN
end Go.Proofs.Ythmjbfocpdiikaa
/-
  Rows of tickets of the call's own; cells of a row laid anew.
-/
namespace Go.Proofs.Ythmjbfocpdiikaa
open Go.RowKit
set_option linter.unusedVariables false
set_option linter.unusedSimpArgs false
attribute [local go_sem] drewN_alloc drewN_setCell

variable {w w' : World}
def compT (r : Nat) (t : SK.Tick) : Value := .int .i64 (match r with | 0 => t.1 | 1 => t.2.1 | 2 => t.2.2.1 | 3 => t.2.2.2.1 | _ => t.2.2.2.2)
def ct (t : SK.Tick) : List Value := [.int .i64 t.1, .int .i64 t.2.1, .int .i64 t.2.2.1, .int .i64 t.2.2.2.1, .int .i64 t.2.2.2.2]
def cellsT (l : List SK.Tick) : List Value := l.flatMap ct
theorem ct_at (t : SK.Tick) {r : Nat} (hr : r < 5) : (ct t)[r]? = some (compT r t) := by
  have : r = 0 ∨ r = 1 ∨ r = 2 ∨ r = 3 ∨ r = 4 := by omega
  rcases this with rfl | rfl | rfl | rfl | rfl <;> rfl
theorem cellsT_len : ∀ l : List SK.Tick, (cellsT l).length = l.length * 5
  | [] => rfl
  | t :: l => by show (ct t ++ cellsT l).length = _; rw [List.length_append, cellsT_len l, List.length_cons]; show 5 + _ = _; omega
theorem cellsT_cons (t : SK.Tick) (l : List SK.Tick) : cellsT (t :: l) = ct t ++ cellsT l := rfl
theorem cellsT_append (l m : List SK.Tick) : cellsT (l ++ m) = cellsT l ++ cellsT m := by unfold cellsT; rw [List.flatMap_append]
theorem cellsT_at : ∀ (l : List SK.Tick) {i r : Nat}, r < 5 → i < l.length → (cellsT l)[i * 5 + r]? = some (compT r (l.getD i SK.t0))
  | [], _, _, _, h => absurd h (by simp)
  | t :: l, 0, r, hr, _ => by
    rw [cellsT_cons, List.getElem?_append_left (by show 0 * 5 + r < 5; omega), Nat.zero_mul, Nat.zero_add, ct_at t hr]; rfl
  | t :: l, i + 1, r, hr, h => by
    rw [cellsT_cons, List.getElem?_append_right (by show 5 ≤ _; omega), show (i + 1) * 5 + r - (ct t).length = i * 5 + r by show _ - 5 = _; omega, cellsT_at l hr (by simpa using h)]
    rfl
theorem cellsT_one (l : List SK.Tick) : ∀ u ∈ cellsT l, u.oneCell' = true := by
  intro u hu
  obtain ⟨t, _, h2⟩ := List.mem_flatMap.1 hu
  simp only [ct, List.mem_cons, List.not_mem_nil, or_false] at h2
  rcases h2 with rfl | rfl | rfl | rfl | rfl <;> rfl
theorem cellsT_take (l : List SK.Tick) (k : Nat) : (cellsT l).take (k * 5) = cellsT (l.take k) := by
  have h := cellsT_append (l.take k) (l.drop k)
  rw [List.take_append_drop] at h
  rw [h]
  rcases Nat.lt_or_ge k l.length with h1 | h1
  · rw [List.take_append_of_le_length (by rw [cellsT_len, List.length_take]; omega), List.take_of_length_le (by rw [cellsT_len, List.length_take]; omega)]
  · rw [List.drop_eq_nil_of_le h1, List.take_of_length_le (l := l) h1]
    show (cellsT l ++ cellsT []).take _ = _
    rw [show cellsT [] = [] from rfl, List.append_nil, List.take_of_length_le (by rw [cellsT_len]; omega)]
theorem cellsT_drop (l : List SK.Tick) (k : Nat) : (cellsT l).drop (k * 5) = cellsT (l.drop k) := by
  have h := cellsT_append (l.take k) (l.drop k)
  rw [List.take_append_drop] at h
  rcases Nat.lt_or_ge k l.length with h1 | h1
  · rw [h, List.drop_append_of_le_length (by rw [cellsT_len, List.length_take]; omega), List.drop_eq_nil_of_le (by rw [cellsT_len, List.length_take]; omega), List.nil_append]
  · rw [List.drop_eq_nil_of_le h1, List.drop_eq_nil_of_le (by rw [cellsT_len]; omega)]; rfl
def OwnT (B : Nat) (w : World) (v : Value) (l : List SK.Tick) : Prop := w.ownsRow B 51 5 v l.length (cellsT l)
theorem OwnT.nil (B : Nat) (w : World) : OwnT B w (.slice none 0 0) [] := World.ownsRow_nil w B _ 5
theorem OwnT.mono {B B' : Nat} {v : Value} {l : List SK.Tick} (h : OwnT B w v l) (hB : B' ≤ B) : OwnT B' w v l := by
  refine ⟨h.1, ?_⟩
  rcases h.2 with ⟨rfl, e⟩ | ⟨g, cap, cur, rfl, hb, r⟩
  · exact .inl ⟨rfl, e⟩
  · exact .inr ⟨g, cap, cur, rfl, by omega, r⟩
theorem OwnT.of_block {B : Nat} {v : Value} {l : List SK.Tick} (h : OwnT B w v l) (e : ∀ k, v.ownBlock = some k → w'.heap[k]? = w.heap[k]?) : OwnT B w' v l := by
  refine ⟨h.1, ?_⟩
  rcases h.2 with ⟨rfl, e1⟩ | ⟨g, cap, cur, rfl, hb, hgg, r⟩
  · exact .inl ⟨rfl, e1⟩
  · exact .inr ⟨g, cap, cur, rfl, hb, (e g rfl).trans hgg, r⟩
theorem OwnT.ltB {B : Nat} {v : Value} {l : List SK.Tick} (h : OwnT B w v l) (k : Nat) (e : v.ownBlock = some k) : B ≤ k ∧ k < w.heap.size := World.ownsRow.lt h k e
theorem OwnT.keep {B : Nat} {v : Value} {l : List SK.Tick} (h : OwnT B w v l) (k : Below w.heap.size w w') : OwnT B w' v l := h.of_block (fun b e => k.block b (h.ltB b e).2)
theorem OwnM.of_block {B : Nat} {v : Value} {l : List PO.Mem} (h : OwnM B w v l) (e : ∀ k, v.ownBlock = some k → w'.heap[k]? = w.heap[k]?) : OwnM B w' v l := by
  refine ⟨h.1, ?_⟩
  rcases h.2 with ⟨rfl, e1⟩ | ⟨g, cap, cur, rfl, hb, hgg, r⟩
  · exact .inl ⟨rfl, e1⟩
  · exact .inr ⟨g, cap, cur, rfl, hb, (e g rfl).trans hgg, r⟩
theorem OwnM.ltB {B : Nat} {v : Value} {l : List PO.Mem} (h : OwnM B w v l) (k : Nat) (e : v.ownBlock = some k) : B ≤ k ∧ k < w.heap.size := World.ownsRow.lt h k e
theorem OwnT.tick {B : Nat} {v : Value} {l : List SK.Tick} (h : OwnT B w v l) (hb : ∀ t ∈ l, TickBd t) : ∃ A c, v = .slice A l.length c ∧ TickAt w A l.length l ∧ l.length ≤ c ∧ c ≤ 9223372036854775807 := by
  rcases h.2 with ⟨rfl, e⟩ | ⟨g, cap, cur, rfl, hg, hgg, hn, hcm, hcs, hx⟩
  · obtain rfl := List.eq_nil_of_length_eq_zero e
    exact ⟨none, 0, rfl, TickAt.nil, Nat.le_refl _, by omega⟩
  · refine ⟨_, _, rfl, ⟨rfl, by unfold maxLen at hcm; omega, hb, fun h0 => ⟨g, 0, rfl, (Array.getElem?_eq_some_iff.1 hgg).1, fun i hi => ?_⟩⟩, hn, by unfold maxLen at hcm; omega⟩
    have key : ∀ r, r < 5 → w.cell? ⟨g, 0 + i * 5 + r, none⟩ = some (compT r (l.getD i SK.t0)) := fun r hr => by
      rw [Nat.zero_add, World.ownsRow.cellAt (w := w) (base := B) (e := 51) (size := 5) h (i * 5 + r) (by omega), cellsT_at l hr hi]
    exact ⟨key 0 (by omega), key 1 (by omega), key 2 (by omega), key 3 (by omega), key 4 (by omega)⟩
theorem TickAt.cellsT {A : Option Addr} {n : Nat} {b off : Nat} {l : List SK.Tick} (h : TickAt w A n l) (h0 : 0 < n) (hA : A = some ⟨b, off, none⟩) : ∀ j u, (cellsT l)[j]? = some u → w.cell? ((⟨b, off, none⟩ : Addr).add j) = some u := fun j u hu => by
  obtain ⟨b', off', e, _, hc⟩ := h.2.2.2 h0
  rw [hA] at e
  cases e
  have hj : j < l.length * 5 := by
    rcases Nat.lt_or_ge j (l.length * 5) with h1 | h1
    · exact h1
    · rw [List.getElem?_eq_none (by rw [cellsT_len]; exact h1)] at hu; cases hu
  have hi : j / 5 < n := by have := h.1; omega
  have e1 := cellsT_at l (i := j / 5) (r := j % 5) (by omega) (by have := h.1; omega)
  rw [show j / 5 * 5 + j % 5 = j by omega] at e1
  rw [e1] at hu
  obtain ⟨c0, c1, c2, c3, c4⟩ := hc (j / 5) hi
  rw [addr_addS, show off + j = off + j / 5 * 5 + j % 5 by omega, ← Option.some.inj hu]
  have : j % 5 = 0 ∨ j % 5 = 1 ∨ j % 5 = 2 ∨ j % 5 = 3 ∨ j % 5 = 4 := by omega
  rcases this with e | e | e | e | e <;> rw [e]
  · exact c0
  · exact c1
  · exact c2
  · exact c3
  · exact c4
theorem srcT_of {A : Option Addr} {n : Nat} {l : List SK.Tick} (h : TickAt w A n l) : SrcS 5 w A n (cellsT l) := by
  by_cases h0 : 0 < n
  · obtain ⟨b, off, rfl, _, _⟩ := h.2.2.2 h0
    refine ⟨by rw [cellsT_len, h.1], fun e => by simp at e, fun ad e j u hu => ?_⟩
    obtain rfl : (⟨b, off, none⟩ : Addr) = ad := by simpa using e
    exact h.cellsT h0 rfl j u hu
  · obtain rfl : n = 0 := by omega
    obtain rfl := List.eq_nil_of_length_eq_zero h.1
    exact ⟨rfl, fun _ => rfl, fun ad e j u hu => by simp [Go.Proofs.Ythmjbfocpdiikaa.cellsT] at hu⟩
/-- One cell of an own row is laid anew. -/
theorem ownsRow_set {B g n c sz k : Nat} {e : TypeId} {xs : List Value} (h : w.ownsRow B e sz (.slice (some ⟨g, 0, none⟩) n c) n xs) (hk : k < n * sz) (u : Value) : (w.setCell ⟨g, k, none⟩ u).ownsRow B e sz (.slice (some ⟨g, 0, none⟩) n c) n (xs.set k u) := by
  refine ⟨by rw [List.length_set]; exact h.1, ?_⟩
  rcases h.2 with ⟨e1, _⟩ | ⟨g', cap, cur, e1, hb, hgg, hn, hcm, hcs, hx⟩
  · cases e1
  · cases e1
    refine .inr ⟨g, c, cur.setIfInBounds k u, rfl, hb, ?_, hn, hcm, by simp [hcs], ?_⟩
    · simp [World.setCell, Array.getElem?_modify, hgg]
    · rw [Array.toList_setIfInBounds, List.take_set, hx]
theorem ownsRow_far {B g' n c sz : Nat} {e : TypeId} {xs : List Value} {v : Value} (h : w.ownsRow B e sz v n xs) {p : Addr} (hp : ∀ k, v.ownBlock = some k → k ≠ p.block) (u : Value) : (w.setCell p u).ownsRow B e sz v n xs := by
  refine ⟨h.1, ?_⟩
  rcases h.2 with ⟨e1, e2⟩ | ⟨g, cap, cur, e1, hb, hgg, r⟩
  · exact .inl ⟨e1, e2⟩
  · refine .inr ⟨g, cap, cur, e1, hb, ?_, r⟩
    rw [Below.heap_setCell _ _ _ _ (hp g (by rw [e1]; rfl))]; exact hgg
/-- Cells laid one behind the other. -/
def over : List Value → Nat → List Value → List Value
  | cs, _, [] => cs
  | cs, o, v :: vs => over (cs.set o v) (o + 1) vs
theorem over_len : ∀ (vs : List Value) (cs : List Value) (o : Nat), (over cs o vs).length = cs.length
  | [], _, _ => rfl
  | v :: vs, cs, o => by show (over (cs.set o v) (o + 1) vs).length = _; rw [over_len vs, List.length_set]
theorem over_eq : ∀ (vs : List Value) (cs : List Value) (o : Nat), o + vs.length ≤ cs.length → over cs o vs = cs.take o ++ vs ++ cs.drop (o + vs.length)
  | [], cs, o, _ => by simp [over]
  | v :: vs, cs, o, h => by
    rw [List.length_cons] at h
    show over (cs.set o v) (o + 1) vs = _
    rw [over_eq vs (cs.set o v) (o + 1) (by rw [List.length_set]; omega), List.take_add_one, List.getElem?_set_self (by omega), List.take_set_of_le (Nat.le_refl _), List.drop_set_of_lt (by omega)]
    simp [Nat.add_assoc, Nat.add_comm 1]
theorem rowAt_setCells {g : Nat} {t : TypeId} : ∀ (vs : List Value) (cs : List Value) (o : Nat) (w : World), w.heap[g]? = some (.cells cs.toArray t (0, 0)) → (w.setCells g o vs).heap[g]? = some (.cells (over cs o vs).toArray t (0, 0))
  | [], _, _, _, h => h
  | v :: vs, cs, o, w, h => by
    refine rowAt_setCells vs (cs.set o v) (o + 1) (w.setCell ⟨g, o, none⟩ v) ?_
    simp [World.setCell, Array.getElem?_modify, h]
theorem setCells_far {g k : Nat} (hk : k ≠ g) : ∀ (vs : List Value) (o : Nat) (w : World), (w.setCells g o vs).heap[k]? = w.heap[k]?
  | [], _, _ => rfl
  | v :: vs, o, w => (setCells_far hk vs (o + 1) (w.setCell ⟨g, o, none⟩ v)).trans (Below.heap_setCell _ _ _ _ hk)
theorem setCells_size (g : Nat) : ∀ (vs : List Value) (o : Nat) (w : World), (w.setCells g o vs).heap.size = w.heap.size
  | [], _, _ => rfl
  | v :: vs, o, w => (setCells_size g vs (o + 1) (w.setCell ⟨g, o, none⟩ v)).trans (by simp)
end Go.Proofs.Ythmjbfocpdiikaa
/-
  slices.Delete of one ticket in a row of the call's own.
-/
namespace Go.Proofs.Ythmjbfocpdiikaa
open Go.RowKit
set_option linter.unusedVariables false
set_option linter.unusedSimpArgs false
attribute [local go_sem] drewN_alloc drewN_setCell


variable {w w' : World}
/-- Only blocks of 'own' have changed among the old ones. -/
structure Chg (own : Nat → Prop) (w w' : World) : Prop where
  os : w'.os = w.os
  tape : w'.tape = w.tape
  output : w'.output = w.output
  size : w.heap.size ≤ w'.heap.size
  block : ∀ k, k < w.heap.size → ¬ own k → w'.heap[k]? = w.heap[k]?
theorem Chg.refl (own : Nat → Prop) (w : World) : Chg own w w := ⟨rfl, rfl, rfl, Nat.le_refl _, fun _ _ _ => rfl⟩
theorem Chg.trans {own : Nat → Prop} {a b c : World} (h : Chg own a b) (k : Chg own b c) : Chg own a c :=
  ⟨k.os.trans h.os, k.tape.trans h.tape, k.output.trans h.output, Nat.le_trans h.size k.size, fun i h1 h2 => (k.block i (Nat.lt_of_lt_of_le h1 h.size) h2).trans (h.block i h1 h2)⟩
theorem Chg.mono {own own' : Nat → Prop} {a b : World} (h : Chg own a b) (hh : ∀ k, k < a.heap.size → own k → own' k) : Chg own' a b :=
  ⟨h.os, h.tape, h.output, h.size, fun i h1 h2 => h.block i h1 (fun h3 => h2 (hh i h1 h3))⟩
theorem Chg.of_below {own : Nat → Prop} (h : Below w.heap.size w w') : Chg own w w' := ⟨h.os, h.tape, h.output, h.size, fun k hk _ => h.block k hk⟩
theorem Chg.of_grown {own : Nat → Prop} {row : Option Nat} (h : w.grownBy w' row) (hr : ∀ k, row = some k → own k) : Chg own w w' :=
  ⟨h.os, h.tape, h.output, h.size, fun k hk hn => h.block k hk (fun e => hn (hr k e.symm))⟩
theorem Chg.set {own : Nat → Prop} {a : World} (h : Chg own a w) {p : Addr} (hp : own p.block) (u : Value) : Chg own a (w.setCell p u) :=
  h.trans ⟨rfl, rfl, rfl, by simp [World.setCell], fun k h1 h2 => Below.heap_setCell _ _ _ _ (fun e => h2 (e ▸ hp))⟩
theorem Chg.below {own : Nat → Prop} {B : Nat} {a : World} (h : Chg own a w) (hB : B ≤ a.heap.size) (hh : ∀ k, own k → B ≤ k) : Below B a w :=
  ⟨h.os, h.tape, h.output, h.size, fun k hk => h.block k (by omega) (fun e => by have := hh k e; omega)⟩
theorem Chg.setCells {own : Nat → Prop} {a : World} {g : Nat} (hg : own g) : ∀ (vs : List Value) (o : Nat) {w : World}, Chg own a w → Chg own a (w.setCells g o vs)
  | [], _, _, h => h
  | v :: vs, o, w, h => Chg.setCells hg vs (o + 1) (w := w.setCell ⟨g, o, none⟩ v) (h.set (p := ⟨g, o, none⟩) hg v)
theorem Chg.drewN {own : Nat → Prop} {a : World} (h : Chg own a w) (n : Nat) : Chg own a (w.drewN n) := ⟨h.os, h.tape, h.output, h.size, h.block⟩
theorem Chg.drew {own : Nat → Prop} {a : World} (h : Chg own a w) : Chg own a w.drew := ⟨h.os, h.tape, h.output, h.size, h.block⟩
section
variable {P : Program} {ops : Array Oper} {Q : Exit → Act → World → Prop} {md : Region.Mode} {S : World → Prop}
/-- An operation that is carried out, and yields v in every world. -/
theorem tk_it (i : Nat) {oi : Oper} (v : Value) {fuel : Nat} {listed : Array Bool} {a : Act} {w : World} (hi : ops.toList[i]? = some oi)
    (hs : Region.noSelect ops = true) (hf : Region.free md ops listed i = true) (hr : (Region.ready md ops listed).contains i = true)
    (hQ : ∀ c a w, Q (.panic c) (a.put oi.dst v) w → Q (.panic c) a w) (hw : Region.wanted oi (yielded ops a.tmps) = true) (hS : S w)
    (hy : ∀ w, (execOp a.eval oi).run P w = .ok (.value v) w)
    (h : wpAnyH P md ops Q S fuel (listed.setIfInBounds i true) (a.put oi.dst v) w) : wpAnyH P md ops Q S (fuel + 1) listed a w :=
  tk_yes i hi hs hf hr hQ hw hS (fun w _ => hy w) h
end
def fromT (A : Option Addr) (c k : Nat) : Option Addr := if c = k then A else A.map (·.add (k * 5))
theorem tick_elem : Try.prog.underlying 43 = some (.slice (Try.prog.elem 43)) := by kernel_rfl
theorem tick_size (w : World) : (sizeOf (Try.prog.elem 43)).run Try.prog w = .ok 5 w := by kernel_rfl
theorem exec_fromT {a : Act} {o : Oper} {x l : Nat} {A : Option Addr} {n c k : Nat} {w : World} (ho : o.op = .slice 43 (.tmp x) (some (.tmp l)) none none) (hx : a.eval (.tmp x) = .slice A n c) (hl : a.eval (.tmp l) = .int .i64 (k : Int)) (hk : k ≤ n) :
    (execOp a.eval o).run Try.prog w = .ok (.value (.slice (fromT A c k) (n - k) (c - k))) w := by
  have hs : (Instr.sliceAt 43 (.slice A n c) (some (.int .i64 (k : Int))) none none).run Try.prog w = .ok (.slice (fromT A c k) (n - k) (c - k)) w := by
    rw [run_sliceAt_slice (h := tick_elem), run_slice_l (ht := tick_elem) (h0 := by omega) (h1 := by omega), tick_size]
    simp only [Result.andThen, sliced, fromT, Int.toNat_natCast]
  unfold execOp
  simp only [ho, hx, hl, Option.map_some, Option.map_none, Sem.run_bind, hs, Result.andThen]
  rfl
theorem exec_toT {a : Act} {o : Oper} {x l : Nat} {A : Option Addr} {n c k : Nat} {w : World} (ho : o.op = .slice 43 (.tmp x) none (some (.tmp l)) none) (hx : a.eval (.tmp x) = .slice A n c) (hl : a.eval (.tmp l) = .int .i64 (k : Int)) (hk : k ≤ c) :
    (execOp a.eval o).run Try.prog w = .ok (.value (.slice (fromT A c 0) k c)) w := by
  have hs : (Instr.sliceAt 43 (.slice A n c) none (some (.int .i64 (k : Int))) none).run Try.prog w = .ok (.slice (fromT A c 0) k c) w := by
    rw [run_sliceAt_slice (h := tick_elem), run_slice_h (ht := tick_elem) (h0 := by omega) (h2 := by omega), tick_size]
    simp only [Result.andThen, sliced, fromT, Int.toNat_natCast, Nat.sub_zero]
  unfold execOp
  simp only [ho, hx, hl, Option.map_some, Option.map_none, Sem.run_bind, hs, Result.andThen]
  rfl
theorem fromT_0 (g c : Nat) : fromT (some ⟨g, 0, none⟩) c 0 = some ⟨g, 0, none⟩ := by
  unfold fromT
  split
  · rfl
  · show some ((⟨g, 0, none⟩ : Addr).add (0 * 5)) = _
    rw [addr_addS]
theorem infoTick : ∃ (i : TypeInfo) (z : Value), Try.prog.info? 51 = some i ∧ i.zero = some z ∧ i.size = 5 ∧ i.bytes = 40 ∧ z.cells.size = 5 := by
  have h : (Try.prog.info? 51).map (fun i => (i.zero.map (fun z => z.cells.size), i.size, i.bytes)) = some (some 5, 5, 40) := by kernel_rfl
  rcases hi : Try.prog.info? 51 with _ | i
  · rw [hi] at h; cases h
  · rw [hi] at h
    simp only [Option.map_some, Option.some.injEq, Prod.mk.injEq] at h
    obtain ⟨h1, h2, h3⟩ := h
    obtain ⟨z, hz, hzs⟩ := Option.map_eq_some_iff.1 h1
    exact ⟨i, z, rfl, hz, h2, h3, hzs⟩
/-- append within the capacity. -/
theorem app_roomT {o : Oper} {a : Act} {K : Act → World → Prop} {Q : Exit → Act → World → Prop} (s x : Operand)
    (ho : o.op = .call { callee := .builtin .append, args := #[s, x], argTypes := #[43, 43] })
    (g k c : Nat) (hsv : a.eval s = .slice (some ⟨g, 0, none⟩) k c) (ad : Addr) (m c2 : Nat) (hx : a.eval x = .slice (some ad) m c2) (news : List Value) (hl : news.length = m * 5)
    (hsrc : ∀ j u, news[j]? = some u → w.cell? (ad.add j) = some u) (h1 : ∀ u ∈ news, u.oneCell' = true) (hroom : k + m ≤ c)
    (hc : ∀ j, j < news.length → (w.cell? ⟨g, k * 5 + j, none⟩).isSome = true) (hf : ∀ j, j < news.length → w.frozen? ⟨g, k * 5 + j, none⟩ = false)
    (h : K (a.put o.dst (.slice (some ⟨g, 0, none⟩) (k + m) c)) (w.setCells g (k * 5) news)) : o.wp Try.prog a w K Q := by
  obtain ⟨i, z, hi, hz, hsz, hby, hzs⟩ := infoTick
  have hr := run_append_room_cells (P := Try.prog) w 43 o.type 51 i Try.underlying43 hi g 0 k c ad m c2 news (by rw [hsz]; exact hl) hsrc h1 hroom (by rw [hsz]; simpa using hc) (by rw [hsz]; simpa using hf)
  rw [hsz, Nat.zero_add] at hr
  unfold Oper.wp
  simp only [execOp, ho, resolve, invoke, builtin, Sem.run_bind, Sem.run_pure, Result.andThen_ok, List.map_toArray, List.map_cons, List.map_nil, hsv, hx, hr]
  exact h
def zT : List Value := [.int .i64 0, .int .i64 0, .int .i64 0, .int .i64 0, .int .i64 0]
theorem run_clear1 (w : World) (ty : TypeId) (b o c : Nat) (hc : ∀ j, j < 5 → (w.cell? ⟨b, o + j, none⟩).isSome = true) (hf : ∀ j, j < 5 → w.frozen? ⟨b, o + j, none⟩ = false) :
    (Builtin.clear_ #[43] ty #[.slice (some ⟨b, o, none⟩) 1 c]).run Try.prog w = .ok (.tuple #[]) (w.setCells b o zT) := by
  have hv : (zeroValue 51).run Try.prog w = .ok (.agg #[.int .i64 0, .int .i64 0, .int .i64 0, .int .i64 0, .int .i64 0]) w := by kernel_rfl
  have hzc : (Builtin.zeroCells (Value.agg #[.int .i64 0, .int .i64 0, .int .i64 0, .int .i64 0, .int .i64 0]).cells 1).toList = zT := by kernel_rfl
  have hst := run_storeCells_cells (P := Try.prog) b o zT 0 w (by simpa [zT] using hc) (by simpa [zT] using hf) (by intro v hv'; simp [zT] at hv'; subst hv'; rfl)
  simp only [Nat.add_zero] at hst
  simp [Builtin.clear_, run_underlying Try.underlying43, hv, hzc, hst]
def GivesDel (B g k m c : Nat) (l : List SK.Tick) (w : World) (e : Ending) (w' : World) : Prop :=
  e = .returned (.slice (some ⟨g, 0, none⟩) (k + m) c) ∧ OwnT B w' (.slice (some ⟨g, 0, none⟩) (k + m) c) (l.take k ++ l.drop (k + 1)) ∧ Chg (fun j => j = g) w w'
set_option maxRecDepth 100000 in
set_option maxHeartbeats 4000000 in
theorem tick_Delete {B g k m c : Nat} {l : List SK.Tick} (h : OwnT B w (.slice (some ⟨g, 0, none⟩) (k + m + 1) c) l) :
    Calls Try.prog 98 #[.slice (some ⟨g, 0, none⟩) (k + m + 1) c, .int .i64 (k : Int), .int .i64 ((k : Int) + 1)] w (GivesDel B g k m c l w) := by
  have hl : l.length = k + m + 1 := by
    rcases h.2 with ⟨e, _⟩ | ⟨g', cap, cur, e, _⟩
    · cases e
    · injection e with _ e2 _; exact e2.symm
  have h2 := h.2
  rw [hl] at h2
  rcases h2 with ⟨e, _⟩ | ⟨g', cap, cur, e, hb, hgg, hn, hcm, hcs, hx⟩
  · cases e
  cases e
  have hg := (Array.getElem?_eq_some_iff.1 hgg).1
  have hcl : cur.toList.length = c * 5 := by rw [Array.length_toList]; exact hcs
  -- every cell of the row is there
  have hsome : ∀ W : World, W.heap[g]? = some (.cells cur 51 (0, 0)) → ∀ j, j < c * 5 → (W.cell? ⟨g, j, none⟩).isSome = true ∧ W.frozen? ⟨g, j, none⟩ = false := fun W hW j hj => by
    constructor
    · simp only [World.cell?, hW]
      simp [hcs, hj]
    · simp [World.frozen?, hW]
  obtain ⟨news, hnews⟩ : ∃ news, cellsT (l.drop (k + 1)) = news := ⟨_, rfl⟩
  have hnl : news.length = m * 5 := by rw [← hnews, cellsT_len, List.length_drop, hl]; congr 1; omega
  have hn1 : ∀ u ∈ news, u.oneCell' = true := by rw [← hnews]; exact cellsT_one _
  have hcur : ∀ i u, (cellsT l)[i]? = some u → cur.toList[i]? = some u := fun i u hu => by
    have hi : i < (cellsT l).length := by
      rcases Nat.lt_or_ge i (cellsT l).length with h1 | h1
      · exact h1
      · rw [List.getElem?_eq_none h1] at hu; cases hu
    rw [← hx] at hu
    rw [List.getElem?_take] at hu
    split at hu
    · exact hu
    · cases hu
  obtain ⟨ad, had, hsrc⟩ : ∃ ad, fromT (some ⟨g, 0, none⟩) c (k + 1) = some ad ∧ ∀ W : World, W.heap[g]? = some (.cells cur 51 (0, 0)) → ∀ j u, news[j]? = some u → W.cell? (ad.add j) = some u := by
    by_cases hck : c = k + 1
    · refine ⟨⟨g, 0, none⟩, by unfold fromT; rw [if_pos hck], fun W _ j u hu => ?_⟩
      have : news = [] := List.eq_nil_of_length_eq_zero (by rw [hnl]; omega)
      rw [this] at hu; cases hu
    · refine ⟨⟨g, (k + 1) * 5, none⟩, ?_, fun W hW j u hu => ?_⟩
      · unfold fromT
        rw [if_neg hck]
        show some ((⟨g, 0, none⟩ : Addr).add ((k + 1) * 5)) = _
        rw [addr_addS, Nat.zero_add]
      · rw [addr_addS]
        have h5 : cur.toList[(k + 1) * 5 + j]? = some u := hcur _ _ (by
          rw [← hnews, ← cellsT_drop, List.getElem?_drop] at hu; exact hu)
        simp only [World.cell?, hW]
        simpa using h5
  -- the worlds behind the append and behind the clear
  have HFIN : Hid (∀ W : World, W.heap[g]? = some (.cells cur 51 (0, 0)) → Chg (fun j => j = g) w W → GivesDel B g k m c l w (.returned (.slice (some ⟨g, 0, none⟩) (k + m) c)) ((W.setCells g (k * 5) news).setCells g ((k + m) * 5) zT)) := Lib.hid (fun W hW hC => by
    refine ⟨rfl, ⟨by rw [cellsT_len], .inr ⟨g, c, (over (over cur.toList (k * 5) news) ((k + m) * 5) zT).toArray, by rw [List.length_append, List.length_take, List.length_drop, hl]; congr 1; omega, hb, rowAt_setCells _ _ _ _ (rowAt_setCells _ _ _ _ (by simpa using hW)), by rw [List.length_append, List.length_take, List.length_drop, hl]; omega, hcm, by simp [over_len, hcs], ?_⟩⟩, Chg.setCells (own := fun j => j = g) rfl _ _ (Chg.setCells (own := fun j => j = g) rfl _ _ hC)⟩
    have hz5 : zT.length = 5 := rfl
    have e1 : (l.take k ++ l.drop (k + 1)).length = k + m := by rw [List.length_append, List.length_take, List.length_drop, hl]; omega
    rw [e1]
    show (over (over cur.toList (k * 5) news) ((k + m) * 5) zT).take ((k + m) * 5) = _
    rw [over_eq zT _ _ (by rw [over_len, hcl, hz5]; omega), List.append_assoc, List.take_append_of_le_length (by rw [List.length_take, over_len, hcl]; omega), List.take_take, Nat.min_self, over_eq news _ _ (by rw [hcl, hnl]; omega), cellsT_append, hnews]
    have e2 : cur.toList.take (k * 5) = cellsT (l.take k) := by
      rw [← cellsT_take, ← hx, List.take_take]; congr 1; omega
    rw [e2, List.take_append_of_le_length (by rw [List.length_append, cellsT_len, List.length_take, hnl, hl]; omega), List.take_of_length_le (by rw [List.length_append, cellsT_len, List.length_take, hnl, hl]; omega)])
  have HCUR := Lib.hid hcs
  have HGG := Lib.hid hgg
  have HSOME := Lib.hid hsome
  have HSRC := Lib.hid hsrc
  have HN1 := Lib.hid hn1
  have HNL := Lib.hid hnl
  have HAD := Lib.hid had
  have hc9 : c ≤ 9223372036854775807 := by unfold maxLen at hcm; omega
  clear h hl hcs hx hgg hcl hsome hnews hn1 hnl hcur had hsrc hcm hg hb
  have f0 : (0 : Int) ≤ (k : Int) := by omega
  have f1 : (k : Int) ≤ (k : Int) + 1 := by omega
  have f2 : (k : Int) + 1 ≤ (k : Int) + (m : Int) + 1 := by omega
  have f3 : (k : Int) + (m : Int) + 1 ≤ (c : Int) := by omega
  have f4 : ((k : Int) == (k : Int) + 1) = false := by simp; omega
  have f5 : (k : Int) + (m : Int) ≤ (k : Int) + (m : Int) + 1 := by omega
  have f6 : (0 : Int) ≤ (k : Int) + (m : Int) := by omega
  have f7 : ¬ c = k + m := by omega
  go_enter Try.func98, Try.ntmps98
  have HS2 : Hid (∀ (a : Act) (o : Oper) (W : World), o.op = .slice 43 (.tmp 20) none (some (.tmp 21)) none → a.eval (.tmp 20) = .slice (some ⟨g, 0, none⟩) (k + m + 1) c → a.eval (.tmp 21) = .int .i64 (k : Int) → (execOp a.eval o).run Try.prog W = .ok (.value (.slice (some ⟨g, 0, none⟩) k c)) W) := Lib.hid (fun a o W h1 h2 h3 => by
    have := exec_toT (w := W) h1 h2 h3 (by omega)
    rw [fromT_0] at this
    exact this)
  obtain ⟨c5, hc5⟩ : ∃ c5, c - (k + 1) = c5 := ⟨_, rfl⟩
  have HS5 : Hid (∀ (a : Act) (o : Oper) (W : World), o.op = .slice 43 (.tmp 23) (some (.tmp 24)) none none → a.eval (.tmp 23) = .slice (some ⟨g, 0, none⟩) (k + m + 1) c → a.eval (.tmp 24) = .int .i64 ((k : Int) + 1) → (execOp a.eval o).run Try.prog W = .ok (.value (.slice (some ad) m c5)) W) := Lib.hid (fun a o W h1 h2 h3 => by
    have := exec_fromT (w := W) (k := k + 1) h1 h2 h3 (by omega)
    rw [HAD.out, hc5, show k + m + 1 - (k + 1) = m by omega] at this
    exact this)
  have HCK : Hid (k + m ≤ c ∧ k * 5 + m * 5 ≤ c * 5) := Lib.hid (by omega)
  clear hc5
  go_upto_region 5 with (fail)
  refine wp_region_held_drew (S := (fun _ : World => True)) (by kernel_rfl) ?_ (fun hHeld => ?_)
  focus ((try dsimp only); all_goals trivial)
  refine tk_yes 0 (v := ?_) rfl (by kernel_rfl) (by kernel_rfl) (by kernel_rfl) (fun _ _ _ h => h) (by kernel_rfl) (by assumption) ?_ ?_; rotate_left; (focus (intro w hSw; (try dsimp only at hSw); go_simp; (first | done | (with_reducible rfl)))); (try simp only [Act.put, List.setIfInBounds_toArray, List.set_cons_zero, List.set_cons_succ])
  refine tk_yes 1 (v := ?_) rfl (by kernel_rfl) (by kernel_rfl) (by kernel_rfl) (fun _ _ _ h => h) (by kernel_rfl) (by assumption) ?_ ?_; rotate_left; (focus (intro w hSw; (try dsimp only at hSw); go_simp; (first | done | (with_reducible rfl)))); (try simp only [Act.put, List.setIfInBounds_toArray, List.set_cons_zero, List.set_cons_succ])
  refine tk_it 2 (.slice (some ⟨g, 0, none⟩) k c) rfl (by kernel_rfl) (by kernel_rfl) (by kernel_rfl) (fun _ _ _ h => h) (by kernel_rfl) (by trivial) (fun w => HS2.out _ _ w rfl rfl rfl) ?_; (try simp only [Act.put, List.setIfInBounds_toArray, List.set_cons_zero, List.set_cons_succ])
  refine tk_yes 3 (v := ?_) rfl (by kernel_rfl) (by kernel_rfl) (by kernel_rfl) (fun _ _ _ h => h) (by kernel_rfl) (by assumption) ?_ ?_; rotate_left; (focus (intro w hSw; (try dsimp only at hSw); go_simp; (first | done | (with_reducible rfl)))); (try simp only [Act.put, List.setIfInBounds_toArray, List.set_cons_zero, List.set_cons_succ])
  refine tk_yes 4 (v := ?_) rfl (by kernel_rfl) (by kernel_rfl) (by kernel_rfl) (fun _ _ _ h => h) (by kernel_rfl) (by assumption) ?_ ?_; rotate_left; (focus (intro w hSw; (try dsimp only at hSw); go_simp; (first | done | (with_reducible rfl)))); (try simp only [Act.put, List.setIfInBounds_toArray, List.set_cons_zero, List.set_cons_succ])
  refine tk_it 5 (.slice (some ad) m c5) rfl (by kernel_rfl) (by kernel_rfl) (by kernel_rfl) (fun _ _ _ h => h) (by kernel_rfl) (by trivial) (fun w => HS5.out _ _ w rfl rfl rfl) ?_; (try simp only [Act.put, List.setIfInBounds_toArray, List.set_cons_zero, List.set_cons_succ])
  refine tk_call 6 rfl (by kernel_rfl) (by kernel_rfl) (fun KW hKW => ?_); refine app_roomT (.tmp 22) (.tmp 25) rfl g k c rfl ad m c5 rfl news HNL.out (HSRC.out _ HGG.out) HN1.out HCK.out.1 (fun j hj => (HSOME.out _ HGG.out (k * 5 + j) (by have := HNL.out; have := HCK.out.2; omega)).1) (fun j hj => (HSOME.out _ HGG.out (k * 5 + j) (by have := HNL.out; have := HCK.out.2; omega)).2) ?_; obtain ⟨W1, hW1⟩ : ∃ W1, w.drew.setCells g (k * 5) news = W1 := ⟨_, rfl⟩; rw [hW1]; refine hKW.out _ _ ?_ (fun hHeld => ?_); (focus ((try dsimp only); all_goals trivial)); clear hKW KW; (try simp only [Act.put, List.setIfInBounds_toArray, List.set_cons_zero, List.set_cons_succ])
  refine tk_yes 7 (v := ?_) rfl (by kernel_rfl) (by kernel_rfl) (by kernel_rfl) (fun _ _ _ h => h) (by kernel_rfl) (by assumption) ?_ ?_; rotate_left; (focus (intro w hSw; (try dsimp only at hSw); go_simp; (first | done | (with_reducible rfl)))); (try simp only [Act.put, List.setIfInBounds_toArray, List.set_cons_zero, List.set_cons_succ])
  refine wpAnyH_done (by kernel_rfl) ?_ _
  have HF := Lib.hid (HFIN.out w.drew HGG.out (Chg.refl _ _).drew)
  rw [hW1] at HF
  have hg1 : W1.heap[g]? = some (.cells (over cur.toList (k * 5) news).toArray 51 (0, 0)) := by rw [← hW1]; refine rowAt_setCells _ _ _ _ ?_; show w.heap[g]? = _; rw [HGG.out]
  have hcs := Lib.hid HCUR.out
  have hcl : ∀ ty, (Builtin.clear_ #[43] ty #[.slice (some ⟨g, (k + m) * 5, none⟩) 1 (c - (k + m))]).run Try.prog W1 = .ok (.tuple #[]) (W1.setCells g ((k + m) * 5) zT) := fun ty => run_clear1 W1 ty g _ _ (fun j hj => by
    have := HCUR.out
    simp only [World.cell?, hg1]
    simp [over_len, this]; omega) (fun j _ => by simp [World.frozen?, hg1])
  clear hg1 hcs hW1
  go_wp2_with fail
  go_ret
  exact HF.out
end Go.Proofs.Ythmjbfocpdiikaa
/-
  Layer 35 (grant): a result's own tickets and members.
-/
namespace Go.Proofs.Ythmjbfocpdiikaa
open Go.RowKit
set_option linter.unusedVariables false
set_option linter.unusedSimpArgs false
attribute [local go_sem] drewN_alloc drewN_setCell


variable {w w' : World}
section
variable {P : Program} {md : Region.Mode} {ops : Array Oper} {Q : Exit → Act → World → Prop} {S : World → Prop} {fuel : Nat} {listed : Array Bool} {a : Act} {w : World}
theorem dag_name (h : ∀ (ops' : Array Oper) (Q' : Exit → Act → World → Prop) (a' : Act), ops' = ops → Q' = Q → a' = a → wpAnyH P md ops' Q' S fuel listed a' w) : wpAnyH P md ops Q S fuel listed a w := h ops Q a rfl rfl rfl
theorem ready_cons {i : Nat} {o : Oper} {rs : List Nat} (ho : ops.toList[i]? = some o) (hw : Region.wanted o (yielded ops a.tmps) = true)
    (h : ∀ K' : Act → World → Prop, Shut (∀ a w, S w → (S w → wpAnyH P md ops Q S fuel (listed.setIfInBounds i true) a w) → K' a w) → Oper.wp P o a w K' Q)
    (hs : AllReadyH P md ops Q S fuel listed a w rs) : AllReadyH P md ops Q S fuel listed a w (i :: rs) :=
  AllReadyH.cons (at_list ho) (fun K' hK => by rw [if_pos hw]; exact h K' hK) hs
end
theorem sizeT : (Try.prog.info? 51).map (·.size) = some 5 := by kernel_rfl
theorem run_make_tick (n : Nat) (hn : n ≤ 100000) : ∃ Z : Array Value, Z.size = n * 5 ∧ ∀ w : World, (Instr.makeSlice 43 (.int .i64 (n : Int)) (.int .i64 (n : Int))).run Try.prog w = .ok (.slice (some ⟨w.heap.size, 0, none⟩) n n) (w.alloc (.cells Z 51)) := by
  have hinfo : (Try.prog.info? 51).map (fun i => (i.zero.isSome, i.size, i.bytes)) = some (true, 5, 40) := by kernel_rfl
  obtain ⟨i, hi, hzz⟩ := Option.map_eq_some_iff.1 hinfo
  simp only [Prod.mk.injEq] at hzz
  obtain ⟨hz, hs, hb⟩ := hzz
  obtain ⟨z, hz⟩ := Option.isSome_iff_exists.1 hz
  refine ⟨madeCells z.cells (n * 5), size_madeCells _ _, fun w => ?_⟩
  have hr := run_make (P := Try.prog) w 43 51 i z Try.underlying43 hi hz .i64 .i64 n n (by omega) (Int.le_refl _) (by rw [hb]; omega) (by omega)
  simp only [Int.toNat_natCast, hs] at hr
  exact hr
theorem empty_array {Z : Array Value} (h : Z.size = 0) : Z = #[] := Array.eq_empty_of_size_eq_zero h
theorem copy_tick {A : Option Addr} {g n c : Nat} {l : List SK.Tick} (Z : Array Value) (hg : w.heap[g]? = some (.cells Z 51 (0, 0))) (hZ : Z.size = n * 5) (h : TickAt w A n l) (ty : TypeId) :
    ∃ w', (Builtin.copy_ #[43, 43] ty #[.slice (some ⟨g, 0, none⟩) n n, .slice A n c]).run Try.prog w = .ok (goInt n) w' ∧ w'.heap[g]? = some (.cells (cellsT l).toArray 51 (0, 0)) ∧ Chg (fun j => j = g) w w' := by
  rcases Nat.eq_zero_or_pos n with h0 | h0
  · subst h0
    have hl : l = [] := List.eq_nil_of_length_eq_zero h.1
    subst hl
    have hz := empty_array (by omega)
    subst hz
    cases A with
    | none =>
      obtain ⟨i, z, hi, hz, hsz, hby, hzs⟩ := infoTick
      exact ⟨w, by simp [Builtin.copy_, run_underlying Try.underlying43, Builtin.lenOf, Builtin.firstCells, sizeOf, typeInfo, hi, storeCells], hg, Chg.refl _ _⟩
    | some ad =>
      have hr := run_copy_rowS (P := Try.prog) w 5 43 43 ty 51 g 0 0 ad 0 c #[] 51 [] Try.underlying43 sizeT hg rfl (fun j v e => by cases e) (Nat.zero_le _) (fun v e => by cases e)
      refine ⟨_, hr, ?_, ⟨rfl, rfl, rfl, by simp [World.setRow], fun k hk hn => setRow_other w g k _ hn⟩⟩
      rw [setRow_heap w g _ _ 51 _ hg]; rfl
  · obtain ⟨b, off, rfl, hb, _⟩ := h.2.2.2 h0
    have hl : (cellsT l).length = n * 5 := by rw [cellsT_len, h.1]
    have hr := run_copy_rowS (P := Try.prog) w 5 43 43 ty 51 g n n ⟨b, off, none⟩ n c Z 51 (cellsT l) Try.underlying43 sizeT hg (by rw [hl]; congr 1; exact (Nat.min_self n).symm) (h.cellsT h0 rfl) (by omega) (cellsT_one l)
    have hm : Nat.min n n = n := Nat.min_self n
    rw [hm] at hr
    refine ⟨_, hr, ?_, ⟨rfl, rfl, rfl, by simp [World.setRow], fun k hk hn => setRow_other w g k _ hn⟩⟩
    rw [setRow_heap w g _ _ 51 _ hg, hl, List.drop_eq_nil_of_le (by simp [hZ]), List.append_nil]
theorem copy_memC {A : Option Addr} {g n c : Nat} {l : List PO.Mem} (Z : Array Value) (hg : w.heap[g]? = some (.cells Z 34 (0, 0))) (hZ : Z.size = n * 4) (h : MemAt w A n l) (ty : TypeId) :
    ∃ w', (Builtin.copy_ #[23, 23] ty #[.slice (some ⟨g, 0, none⟩) n n, .slice A n c]).run Try.prog w = .ok (goInt n) w' ∧ w'.heap[g]? = some (.cells (cellsM l).toArray 34 (0, 0)) ∧ Chg (fun j => j = g) w w' := by
  rcases Nat.eq_zero_or_pos n with h0 | h0
  · subst h0
    have hl : l = [] := List.eq_nil_of_length_eq_zero h.1
    subst hl
    have hz := empty_array (by omega)
    subst hz
    cases A with
    | none =>
      obtain ⟨i, z, hi, hz, hsz, hby, hzs⟩ := infoMem
      exact ⟨w, by simp [Builtin.copy_, run_underlying Try.underlying23, Builtin.lenOf, Builtin.firstCells, sizeOf, typeInfo, hi, storeCells], hg, Chg.refl _ _⟩
    | some ad =>
      have hr := run_copy_rowS (P := Try.prog) w 4 23 23 ty 34 g 0 0 ad 0 c #[] 34 [] Try.underlying23 sizeM hg rfl (fun j v e => by cases e) (Nat.zero_le _) (fun v e => by cases e)
      refine ⟨_, hr, ?_, ⟨rfl, rfl, rfl, by simp [World.setRow], fun k hk hn => setRow_other w g k _ hn⟩⟩
      rw [setRow_heap w g _ _ 34 _ hg]; rfl
  · obtain ⟨b, off, rfl, hb, _⟩ := h.2.2.2 h0
    have hl : (cellsM l).length = n * 4 := by rw [cellsM_len, h.1]
    have hr := run_copy_rowS (P := Try.prog) w 4 23 23 ty 34 g n n ⟨b, off, none⟩ n c Z 34 (cellsM l) Try.underlying23 sizeM hg (by rw [hl]; congr 1; exact (Nat.min_self n).symm) (h.cellsM h0) (by omega) (cellsM_one l)
    have hm : Nat.min n n = n := Nat.min_self n
    rw [hm] at hr
    refine ⟨_, hr, ?_, ⟨rfl, rfl, rfl, by simp [World.setRow], fun k hk hn => setRow_other w g k _ hn⟩⟩
    rw [setRow_heap w g _ _ 34 _ hg, hl, List.drop_eq_nil_of_le (by simp [hZ]), List.append_nil]
/-- A block of the call's own holds these cells. -/
def RowA (w : World) (g : Nat) (t : TypeId) (cs : List Value) : Prop := w.heap[g]? = some (.cells cs.toArray t (0, 0))
theorem RowA.cell {g : Nat} {t : TypeId} {cs : List Value} (h : RowA w g t cs) (i : Nat) : w.cell? ⟨g, i, none⟩ = cs[i]? := by
  unfold RowA at h
  simp [World.cell?, h]
theorem RowA.frozen {g : Nat} {t : TypeId} {cs : List Value} (h : RowA w g t cs) (i : Nat) : w.frozen? ⟨g, i, none⟩ = false := by
  unfold RowA at h
  simp [World.frozen?, h]
theorem RowA.set_ {g : Nat} {t : TypeId} {cs : List Value} (h : RowA w g t cs) (i : Nat) (u : Value) : RowA (w.setCell ⟨g, i, none⟩ u) g t (cs.set i u) := by
  unfold RowA at h ⊢
  simp [World.setCell, Array.getElem?_modify, h]
theorem RowA.of_block {g : Nat} {t : TypeId} {cs : List Value} (h : RowA w g t cs) (e : w'.heap[g]? = w.heap[g]?) : RowA w' g t cs := e.trans h
theorem RowA.lt {g : Nat} {t : TypeId} {cs : List Value} (h : RowA w g t cs) : g < w.heap.size := (Array.getElem?_eq_some_iff.1 h).1
theorem RowA.chg {own : Nat → Prop} {g : Nat} {t : TypeId} {cs : List Value} (h : RowA w g t cs) (hc : Chg own w w') (hn : ¬ own g) : RowA w' g t cs := h.of_block (hc.block g h.lt hn)
theorem RowA.keep {g : Nat} {t : TypeId} {cs : List Value} (h : RowA w g t cs) (hb : Below w.heap.size w w') : RowA w' g t cs := h.of_block (hb.block g h.lt)
theorem RowA.new (w : World) (t : TypeId) (cs : List Value) : RowA (w.alloc (.cells cs.toArray t)) w.heap.size t cs := World.alloc_heap_new _ _
theorem chg4 {W : World} {b : Nat} (x0 x1 x2 x3 : Value) : Chg (fun j => j = b) W ((((W.setCell ⟨b, 0, none⟩ x0).setCell ⟨b, 1, none⟩ x1).setCell ⟨b, 2, none⟩ x2).setCell ⟨b, 3, none⟩ x3) :=
  ((((Chg.refl (fun j => j = b) W).set (p := ⟨b, 0, none⟩) rfl x0).set (p := ⟨b, 1, none⟩) rfl x1).set (p := ⟨b, 2, none⟩) rfl x2).set (p := ⟨b, 3, none⟩) rfl x3
def GivesCopied (tn mn : Nat) (ts : List SK.Tick) (ms : List PO.Mem) (free : Int) (w : World) (e : Ending) (w' : World) : Prop :=
  ∃ b2 b5, e = .returned (.agg #[.slice none 0 0, .slice (some ⟨b2, 0, none⟩) tn tn, .slice (some ⟨b5, 0, none⟩) mn mn, .int .i64 free]) ∧ w.heap.size ≤ b2 ∧ w.heap.size ≤ b5 ∧ b2 ≠ b5 ∧ RowA w' b2 51 (cellsT ts) ∧ RowA w' b5 34 (cellsM ms) ∧ Below w.heap.size w w'
set_option maxRecDepth 100000 in
set_option maxHeartbeats 8000000 in
theorem grant_copied {TA MA : Option Addr} {tn mn : Nat} {ts : List SK.Tick} {ms : List PO.Mem} (tc mc : Nat) (free : Int) (h : TickAt w TA tn ts) (hm : MemAt w MA mn ms) (htn : tn ≤ 1000) (hmn : mn ≤ 1000) :
    Calls Try.prog 66 #[.slice TA tn tc, .slice MA mn mc, .int .i64 free] w (GivesCopied tn mn ts ms free w) := by
  obtain ⟨ZT, hZT, hmkT⟩ := run_make_tick tn (by omega)
  obtain ⟨ZM, hZM, hmkM⟩ := run_make_mem mn (by omega)
  obtain ⟨W0, hW0⟩ : ∃ W0, w.alloc (.cells #[.slice none 0 0, .slice none 0 0, .slice none 0 0, .int .i64 0] 56) = W0 := ⟨_, rfl⟩
  obtain ⟨b6, hb6⟩ : ∃ b, w.heap.size = b := ⟨_, rfl⟩
  have r6 : RowA W0 b6 56 [.slice none 0 0, .slice none 0 0, .slice none 0 0, .int .i64 0] := by rw [← hW0, ← hb6]; exact RowA.new w 56 [.slice none 0 0, .slice none 0 0, .slice none 0 0, .int .i64 0]
  have B0 : Below w.heap.size w W0 := by rw [← hW0]; exact (by repeat (first | exact Below.refl _ _ | assumption | refine bel_drew ?_ | refine bel_drewN ?_ _ | refine bel_alloc ?_ _ | refine bel_set ?_ (by first | (dsimp only; omega) | (simp; done) | (simp; omega)) _ | refine bel_trans ?_ (by assumption)))
  have HT := Lib.hid h
  have HM := Lib.hid hm
  have HZT := Lib.hid hZT
  have HZM := Lib.hid hZM
  have HW0 := Lib.hid hW0
  have HB6 := Lib.hid hb6
  have R6 := Lib.hid r6
  have HB0 := Lib.hid B0
  have b6lt : b6 < W0.heap.size := r6.lt
  clear h hm hZT hZM hW0 r6 B0
  go_enter Try.func66, Try.ntmps66
  go_upto_region 1 with (fail)
  rw [HW0.out]
  clear hb6
  refine wp_region_held_drew (S := (fun W : World => True)) (by kernel_rfl) ?_ (fun hHeld => ?_)
  focus (all_goals trivial)
  refine tk_yes 0 (v := ?_) rfl (by kernel_rfl) (by kernel_rfl) (by kernel_rfl) (fun _ _ _ h => h) (by kernel_rfl) (by assumption) ?_ ?_; rotate_left; (focus (intro w hSw; (try dsimp only at hSw); go_simp; (first | done | (with_reducible rfl)))); (try simp only [Act.put, List.setIfInBounds_toArray, List.set_cons_zero, List.set_cons_succ])
  refine tk_yes 1 (v := ?_) rfl (by kernel_rfl) (by kernel_rfl) (by kernel_rfl) (fun _ _ _ h => h) (by kernel_rfl) (by assumption) ?_ ?_; rotate_left; (focus (intro w hSw; (try dsimp only at hSw); go_simp; (first | done | (with_reducible rfl)))); (try simp only [Act.put, List.setIfInBounds_toArray, List.set_cons_zero, List.set_cons_succ])
  refine tk_yes 3 (v := ?_) rfl (by kernel_rfl) (by kernel_rfl) (by kernel_rfl) (fun _ _ _ h => h) (by kernel_rfl) (by assumption) ?_ ?_; rotate_left; (focus (intro w hSw; (try dsimp only at hSw); go_simp; (first | done | (with_reducible rfl)))); (try simp only [Act.put, List.setIfInBounds_toArray, List.set_cons_zero, List.set_cons_succ])
  refine tk_yes 4 (v := ?_) rfl (by kernel_rfl) (by kernel_rfl) (by kernel_rfl) (fun _ _ _ h => h) (by kernel_rfl) (by assumption) ?_ ?_; rotate_left; (focus (intro w hSw; (try dsimp only at hSw); go_simp; (first | done | (with_reducible rfl)))); (try simp only [Act.put, List.setIfInBounds_toArray, List.set_cons_zero, List.set_cons_succ])
  refine tk_yes 6 (v := ?_) rfl (by kernel_rfl) (by kernel_rfl) (by kernel_rfl) (fun _ _ _ h => h) (by kernel_rfl) (by assumption) ?_ ?_; rotate_left; (focus (intro w hSw; (try dsimp only at hSw); go_simp; (first | done | (with_reducible rfl)))); (try simp only [Act.put, List.setIfInBounds_toArray, List.set_cons_zero, List.set_cons_succ])
  refine dag_name ?_
  intro OPS Q' a0 hO hQ ha
  have LF : ∀ (WW : World) (b2 b5 b8 : Nat), Below W0.heap.size W0 WW → (W0.heap.size ≤ b2 ∧ WW.heap[b2]? = some (.cells ZT 51)) → (W0.heap.size ≤ b5 ∧ WW.heap[b5]? = some (.cells ZM 34)) → (W0.heap.size ≤ b8 ∧ WW.heap[b8]? = some (.cells #[.slice none 0 0, .slice none 0 0, .slice none 0 0, .int .i64 0] 56)) → b2 ≠ b5 → b2 ≠ b8 → b5 ≠ b8 → wpAnyH Try.prog .any OPS Q' (fun W : World => True) 1 #[true, true, true, true, true, true, true, true, true, false] ((((a0.put (some 7) (.pointer (some ⟨b8, 0, none⟩))).put (some 10) (.slice (some ⟨b2, 0, none⟩) tn tn)).put (some 13) (.slice (some ⟨b5, 0, none⟩) mn mn)).put (some 15) (.agg #[.slice none 0 0, .slice (some ⟨b2, 0, none⟩) tn tn, .slice (some ⟨b5, 0, none⟩) mn mn, .int .i64 free])) WW := by
    intro WW b2 b5 b8 hb h2 h5 h8 d25 d28 d58
    subst hO
    subst ha
    subst hQ
    (try simp only [Act.put, List.setIfInBounds_toArray, List.set_cons_zero, List.set_cons_succ])
    have r8 : RowA WW b8 56 [.slice none 0 0, .slice none 0 0, .slice none 0 0, .int .i64 0] := h8.2
    have e0 := (r8.cell 0).trans rfl
    have f0 := r8.frozen 0
    have e1 := (r8.cell 1).trans rfl
    have f1 := r8.frozen 1
    have e2 := (r8.cell 2).trans rfl
    have f2 := r8.frozen 2
    have e3 := (r8.cell 3).trans rfl
    have f3 := r8.frozen 3
    have HH2 := Lib.hid h2
    have HH5 := Lib.hid h5
    have HH8 := Lib.hid h8
    have HD := Lib.hid (And.intro d25 (And.intro d28 d58))
    have HBW := Lib.hid hb
    have R8 := Lib.hid r8
    clear h2 h5 h8 d25 d28 d58 hb r8
    refine tk_call 9 rfl (by kernel_rfl) (by kernel_rfl) (fun KW hKW => ?_); go_simp; refine hKW.out _ _ ?_ (fun hHeld => ?_); (focus ((try dsimp only); all_goals trivial)); clear hKW KW; (try simp only [Act.put, List.setIfInBounds_toArray, List.set_cons_zero, List.set_cons_succ])
    refine wpAnyH_done (by kernel_rfl) ?_ _
    obtain ⟨W9, hW9⟩ : ∃ W9, ((((WW.setCell ⟨b8, 0, none⟩ (.slice none 0 0)).setCell ⟨b8, 1, none⟩ (.slice (some ⟨b2, 0, none⟩) tn tn)).setCell ⟨b8, 2, none⟩ (.slice (some ⟨b5, 0, none⟩) mn mn)).setCell ⟨b8, 3, none⟩ (.int .i64 free)) = W9 := ⟨_, rfl⟩
    rw [hW9]
    have C9 : Chg (fun j => j = b8) WW W9 := by rw [← hW9]; exact chg4 _ _ _ _
    have r9 : RowA W9 b8 56 [.slice none 0 0, .slice (some ⟨b2, 0, none⟩) tn tn, .slice (some ⟨b5, 0, none⟩) mn mn, .int .i64 free] := by rw [← hW9]; exact (((R8.out.set_ 0 _).set_ 1 _).set_ 2 _).set_ 3 _
    have n28 : b2 ≠ b8 := HD.out.2.1
    have n58 : b5 ≠ b8 := HD.out.2.2
    have n25 : b2 ≠ b5 := HD.out.1
    have g2 : W9.heap[b2]? = some (.cells ZT 51 (0, 0)) := (C9.block b2 (Array.getElem?_eq_some_iff.1 HH2.out.2).1 n28).trans HH2.out.2
    have g5 : W9.heap[b5]? = some (.cells ZM 34 (0, 0)) := (C9.block b5 (Array.getElem?_eq_some_iff.1 HH5.out.2).1 n58).trans HH5.out.2
    have s0 := HBW.out.size
    have s9 := C9.size
    have q2 := HH2.out.1
    have q5 := HH5.out.1
    have q8 := HH8.out.1
    have B9 : Below W0.heap.size W0 W9 := HBW.out.trans (C9.below s0 (fun k e => by omega))
    have r6 : RowA W9 b6 56 [.slice none 0 0, .slice none 0 0, .slice none 0 0, .int .i64 0] := R6.out.keep B9
    have BW9 : Below w.heap.size w W9 := bel_trans' HB0.out B9 HB0.out.size
    obtain ⟨W10, hr10, g210, C10⟩ := copy_tick (c := tc) ZT g2 HZT.out (HT.out.keep BW9) 3
    have r10 := r9.chg C10 (fun e => n28 e.symm)
    have r610 := r6.chg C10 (by omega)
    have g510 : W10.heap[b5]? = some (.cells ZM 34 (0, 0)) := (C10.block b5 (Array.getElem?_eq_some_iff.1 g5).1 (fun e => n25 e.symm)).trans g5
    have s10 := C10.size
    have B10 : Below W0.heap.size W0 W10 := B9.trans (C10.below (by omega) (fun k e => by omega))
    have BW10 : Below w.heap.size w W10 := bel_trans' HB0.out B10 HB0.out.size
    obtain ⟨W11, hr11, g511, C11⟩ := copy_memC (c := mc) ZM g510 HZM.out (HM.out.keep BW10) 3
    have r11 := r10.chg C11 (fun e => n58 e.symm)
    have r611 := r610.chg C11 (by omega)
    have g211 : RowA W11 b2 51 (cellsT ts) := RowA.chg (w := W10) g210 C11 n25
    have s11 := C11.size
    have B11 : Below W0.heap.size W0 W11 := B10.trans (C11.below (by omega) (fun k e => by omega))
    have n68 : b6 ≠ b8 := by omega
    have n68' : b8 ≠ b6 := by omega
    have HG2 := Lib.hid g211
    have HG5 : Hid (RowA W11 b5 34 (cellsM ms)) := Lib.hid g511
    have HB11 := Lib.hid (bel_trans' HB0.out B11 HB0.out.size)
    have R611 := Lib.hid r611
    have hq2 : w.heap.size ≤ b2 := by rw [HB6.out]; omega
    have hq5 : w.heap.size ≤ b5 := by rw [HB6.out]; omega
    clear e0 e1 e2 e3 f0 f1 f2 f3 hW9 C9 g2 g5 B9 r6 BW9 g210 C10 r610 g510 B10 BW10 g511 C11 g211 B11
    have e0 := (r9.cell 0).trans rfl
    have k0 := (r10.cell 0).trans rfl
    have l0 := (r11.cell 0).trans rfl
    have m0 := (r611.cell 0).trans rfl
    have f0 := r611.frozen 0
    have e1 := (r9.cell 1).trans rfl
    have k1 := (r10.cell 1).trans rfl
    have l1 := (r11.cell 1).trans rfl
    have m1 := (r611.cell 1).trans rfl
    have f1 := r611.frozen 1
    have e2 := (r9.cell 2).trans rfl
    have k2 := (r10.cell 2).trans rfl
    have l2 := (r11.cell 2).trans rfl
    have m2 := (r611.cell 2).trans rfl
    have f2 := r611.frozen 2
    have e3 := (r9.cell 3).trans rfl
    have k3 := (r10.cell 3).trans rfl
    have l3 := (r11.cell 3).trans rfl
    have m3 := (r611.cell 3).trans rfl
    have f3 := r611.frozen 3
    clear r9 r10 r11 r611
    go_wp2_with fail
    obtain ⟨W12, hW12⟩ : ∃ W12, ((((W11.setCell ⟨b6, 0, none⟩ (.slice none 0 0)).setCell ⟨b6, 1, none⟩ (.slice (some ⟨b2, 0, none⟩) tn tn)).setCell ⟨b6, 2, none⟩ (.slice (some ⟨b5, 0, none⟩) mn mn)).setCell ⟨b6, 3, none⟩ (.int .i64 free)) = W12 := ⟨_, rfl⟩
    rw [hW12]
    have C12 : Chg (fun j => j = b6) W11 W12 := by rw [← hW12]; exact chg4 _ _ _ _
    have r12 : RowA W12 b6 56 [.slice none 0 0, .slice (some ⟨b2, 0, none⟩) tn tn, .slice (some ⟨b5, 0, none⟩) mn mn, .int .i64 free] := by rw [← hW12]; exact (((R611.out.set_ 0 _).set_ 1 _).set_ 2 _).set_ 3 _
    have x0 := (r12.cell 0).trans rfl
    have x1 := (r12.cell 1).trans rfl
    have x2 := (r12.cell 2).trans rfl
    have x3 := (r12.cell 3).trans rfl
    exact bodyPost_ret (v := .agg #[.slice none 0 0, .slice (some ⟨b2, 0, none⟩) tn tn, .slice (some ⟨b5, 0, none⟩) mn mn, .int .i64 free]) (by simp [results, Try.results66, go_sem, x0, x1, x2, x3]) rfl ⟨b2, b5, rfl, hq2, hq5, n25, HG2.out.chg C12 (by omega), HG5.out.chg C12 (by omega), HB11.out.trans (C12.below HB11.out.size (fun k e => by rw [HB6.out]; omega))⟩
  have L258 : ∀ (WW : World) (b2 b5 b8 : Nat), Below W0.heap.size W0 WW → (W0.heap.size ≤ b2 ∧ WW.heap[b2]? = some (.cells ZT 51)) → (W0.heap.size ≤ b5 ∧ WW.heap[b5]? = some (.cells ZM 34)) → (W0.heap.size ≤ b8 ∧ WW.heap[b8]? = some (.cells #[.slice none 0 0, .slice none 0 0, .slice none 0 0, .int .i64 0] 56)) → b2 ≠ b5 → b2 ≠ b8 → b5 ≠ b8 → wpAnyH Try.prog .any OPS Q' (fun W : World => True) 2 #[true, true, true, true, true, true, true, false, true, false] (((a0.put (some 7) (.pointer (some ⟨b8, 0, none⟩))).put (some 10) (.slice (some ⟨b2, 0, none⟩) tn tn)).put (some 13) (.slice (some ⟨b5, 0, none⟩) mn mn)) WW := by
    intro WW b2 b5 b8 hb h2 h5 h8 d25 d28 d58
    subst hO
    subst ha
    subst hQ
    simp only [Act.put, List.setIfInBounds_toArray, List.set_cons_zero, List.set_cons_succ] at LF
    (try simp only [Act.put, List.setIfInBounds_toArray, List.set_cons_zero, List.set_cons_succ])
    refine tk_yes 7 (v := ?_) rfl (by kernel_rfl) (by kernel_rfl) (by kernel_rfl) (fun _ _ _ h => h) (by kernel_rfl) (by assumption) ?_ ?_; rotate_left; (focus (intro w hSw; (try dsimp only at hSw); go_simp; (first | done | (with_reducible rfl)))); (try simp only [Act.put, List.setIfInBounds_toArray, List.set_cons_zero, List.set_cons_succ])
    exact LF _ b2 b5 b8 hb h2 h5 h8 d25 d28 d58
  have L25 : ∀ (WW : World) (b2 b5 : Nat), Below W0.heap.size W0 WW → (W0.heap.size ≤ b2 ∧ WW.heap[b2]? = some (.cells ZT 51)) → (W0.heap.size ≤ b5 ∧ WW.heap[b5]? = some (.cells ZM 34)) → b2 ≠ b5 → wpAnyH Try.prog .any OPS Q' (fun W : World => True) 3 #[true, true, true, true, true, true, true, false, false, false] ((a0.put (some 10) (.slice (some ⟨b2, 0, none⟩) tn tn)).put (some 13) (.slice (some ⟨b5, 0, none⟩) mn mn)) WW := by
    intro WW b2 b5 hb h2 h5 d25
    subst hO
    subst ha
    subst hQ
    simp only [Act.put, List.setIfInBounds_toArray, List.set_cons_zero, List.set_cons_succ] at LF
    (try simp only [Act.put, List.setIfInBounds_toArray, List.set_cons_zero, List.set_cons_succ])
    refine tk_yes 7 (v := ?_) rfl (by kernel_rfl) (by kernel_rfl) (by kernel_rfl) (fun _ _ _ h => h) (by kernel_rfl) (by assumption) ?_ ?_; rotate_left; (focus (intro w hSw; (try dsimp only at hSw); go_simp; (first | done | (with_reducible rfl)))); (try simp only [Act.put, List.setIfInBounds_toArray, List.set_cons_zero, List.set_cons_succ])
    refine wpAnyH_ready (rs := [8]) (by kernel_rfl) (by simp) (ready_cons (i := 8) rfl (by kernel_rfl) (fun KW hKW => ?_) (AllReadyH.nil))
    · go_simp; refine hKW.out _ _ ?_ (fun hHeld => ?_); (focus (all_goals trivial))
      (try simp only [Act.put, List.setIfInBounds_toArray, List.set_cons_zero, List.set_cons_succ])
      exact LF _ b2 b5 WW.heap.size (by repeat (first | exact Below.refl _ _ | assumption | refine bel_drew ?_ | refine bel_drewN ?_ _ | refine bel_alloc ?_ _ | refine bel_trans ?_ (by assumption))) ⟨h2.1, (Below.heap_alloc _ _ _ (Array.getElem?_eq_some_iff.1 h2.2).1).trans h2.2⟩ ⟨h5.1, (Below.heap_alloc _ _ _ (Array.getElem?_eq_some_iff.1 h5.2).1).trans h5.2⟩ ⟨hb.size, World.alloc_heap_new _ _⟩ d25 (fun e => by have := (Array.getElem?_eq_some_iff.1 h2.2).1; omega) (fun e => by have := (Array.getElem?_eq_some_iff.1 h5.2).1; omega)
  have L28 : ∀ (WW : World) (b2 b8 : Nat), Below W0.heap.size W0 WW → (W0.heap.size ≤ b2 ∧ WW.heap[b2]? = some (.cells ZT 51)) → (W0.heap.size ≤ b8 ∧ WW.heap[b8]? = some (.cells #[.slice none 0 0, .slice none 0 0, .slice none 0 0, .int .i64 0] 56)) → b2 ≠ b8 → wpAnyH Try.prog .any OPS Q' (fun W : World => True) 3 #[true, true, true, true, true, false, true, false, true, false] ((a0.put (some 7) (.pointer (some ⟨b8, 0, none⟩))).put (some 10) (.slice (some ⟨b2, 0, none⟩) tn tn)) WW := by
    intro WW b2 b8 hb h2 h8 d28
    subst hO
    subst ha
    simp only [Act.put, List.setIfInBounds_toArray, List.set_cons_zero, List.set_cons_succ] at L258
    (try simp only [Act.put, List.setIfInBounds_toArray, List.set_cons_zero, List.set_cons_succ])
    refine wpAnyH_ready (rs := [5]) (by kernel_rfl) (by simp) (ready_cons (i := 5) rfl (by kernel_rfl) (fun KW hKW => ?_) (AllReadyH.nil))
    · go_simp; refine hKW.out _ _ ?_ (fun hHeld => ?_); (focus (all_goals trivial))
      (try simp only [Act.put, List.setIfInBounds_toArray, List.set_cons_zero, List.set_cons_succ])
      exact L258 _ b2 WW.heap.size b8 (by repeat (first | exact Below.refl _ _ | assumption | refine bel_drew ?_ | refine bel_drewN ?_ _ | refine bel_alloc ?_ _ | refine bel_trans ?_ (by assumption))) ⟨h2.1, (Below.heap_alloc _ _ _ (Array.getElem?_eq_some_iff.1 h2.2).1).trans h2.2⟩ ⟨hb.size, World.alloc_heap_new _ _⟩ ⟨h8.1, (Below.heap_alloc _ _ _ (Array.getElem?_eq_some_iff.1 h8.2).1).trans h8.2⟩ (fun e => by have := (Array.getElem?_eq_some_iff.1 h2.2).1; omega) d28 (fun e => by have := (Array.getElem?_eq_some_iff.1 h8.2).1; omega)
  have L58 : ∀ (WW : World) (b5 b8 : Nat), Below W0.heap.size W0 WW → (W0.heap.size ≤ b5 ∧ WW.heap[b5]? = some (.cells ZM 34)) → (W0.heap.size ≤ b8 ∧ WW.heap[b8]? = some (.cells #[.slice none 0 0, .slice none 0 0, .slice none 0 0, .int .i64 0] 56)) → b5 ≠ b8 → wpAnyH Try.prog .any OPS Q' (fun W : World => True) 3 #[true, true, false, true, true, true, true, false, true, false] ((a0.put (some 7) (.pointer (some ⟨b8, 0, none⟩))).put (some 13) (.slice (some ⟨b5, 0, none⟩) mn mn)) WW := by
    intro WW b5 b8 hb h5 h8 d58
    subst hO
    subst ha
    simp only [Act.put, List.setIfInBounds_toArray, List.set_cons_zero, List.set_cons_succ] at L258
    (try simp only [Act.put, List.setIfInBounds_toArray, List.set_cons_zero, List.set_cons_succ])
    refine wpAnyH_ready (rs := [2]) (by kernel_rfl) (by simp) (ready_cons (i := 2) rfl (by kernel_rfl) (fun KW hKW => ?_) (AllReadyH.nil))
    · go_simp; refine hKW.out _ _ ?_ (fun hHeld => ?_); (focus (all_goals trivial))
      (try simp only [Act.put, List.setIfInBounds_toArray, List.set_cons_zero, List.set_cons_succ])
      exact L258 _ WW.heap.size b5 b8 (by repeat (first | exact Below.refl _ _ | assumption | refine bel_drew ?_ | refine bel_drewN ?_ _ | refine bel_alloc ?_ _ | refine bel_trans ?_ (by assumption))) ⟨hb.size, World.alloc_heap_new _ _⟩ ⟨h5.1, (Below.heap_alloc _ _ _ (Array.getElem?_eq_some_iff.1 h5.2).1).trans h5.2⟩ ⟨h8.1, (Below.heap_alloc _ _ _ (Array.getElem?_eq_some_iff.1 h8.2).1).trans h8.2⟩ (fun e => by have := (Array.getElem?_eq_some_iff.1 h5.2).1; omega) (fun e => by have := (Array.getElem?_eq_some_iff.1 h8.2).1; omega) d58
  have L2 : ∀ (WW : World) (b2 : Nat), Below W0.heap.size W0 WW → (W0.heap.size ≤ b2 ∧ WW.heap[b2]? = some (.cells ZT 51)) → wpAnyH Try.prog .any OPS Q' (fun W : World => True) 4 #[true, true, true, true, true, false, true, false, false, false] (a0.put (some 10) (.slice (some ⟨b2, 0, none⟩) tn tn)) WW := by
    intro WW b2 hb h2
    subst hO
    subst ha
    simp only [Act.put, List.setIfInBounds_toArray, List.set_cons_zero, List.set_cons_succ] at L25
    simp only [Act.put, List.setIfInBounds_toArray, List.set_cons_zero, List.set_cons_succ] at L28
    (try simp only [Act.put, List.setIfInBounds_toArray, List.set_cons_zero, List.set_cons_succ])
    refine wpAnyH_ready (rs := [5, 8]) (by kernel_rfl) (by simp) (ready_cons (i := 5) rfl (by kernel_rfl) (fun KW hKW => ?_) (ready_cons (i := 8) rfl (by kernel_rfl) (fun KW hKW => ?_) (AllReadyH.nil)))
    · go_simp; refine hKW.out _ _ ?_ (fun hHeld => ?_); (focus (all_goals trivial))
      (try simp only [Act.put, List.setIfInBounds_toArray, List.set_cons_zero, List.set_cons_succ])
      exact L25 _ b2 WW.heap.size (by repeat (first | exact Below.refl _ _ | assumption | refine bel_drew ?_ | refine bel_drewN ?_ _ | refine bel_alloc ?_ _ | refine bel_trans ?_ (by assumption))) ⟨h2.1, (Below.heap_alloc _ _ _ (Array.getElem?_eq_some_iff.1 h2.2).1).trans h2.2⟩ ⟨hb.size, World.alloc_heap_new _ _⟩ (fun e => by have := (Array.getElem?_eq_some_iff.1 h2.2).1; omega)
    · go_simp; refine hKW.out _ _ ?_ (fun hHeld => ?_); (focus (all_goals trivial))
      (try simp only [Act.put, List.setIfInBounds_toArray, List.set_cons_zero, List.set_cons_succ])
      exact L28 _ b2 WW.heap.size (by repeat (first | exact Below.refl _ _ | assumption | refine bel_drew ?_ | refine bel_drewN ?_ _ | refine bel_alloc ?_ _ | refine bel_trans ?_ (by assumption))) ⟨h2.1, (Below.heap_alloc _ _ _ (Array.getElem?_eq_some_iff.1 h2.2).1).trans h2.2⟩ ⟨hb.size, World.alloc_heap_new _ _⟩ (fun e => by have := (Array.getElem?_eq_some_iff.1 h2.2).1; omega)
  have L5 : ∀ (WW : World) (b5 : Nat), Below W0.heap.size W0 WW → (W0.heap.size ≤ b5 ∧ WW.heap[b5]? = some (.cells ZM 34)) → wpAnyH Try.prog .any OPS Q' (fun W : World => True) 4 #[true, true, false, true, true, true, true, false, false, false] (a0.put (some 13) (.slice (some ⟨b5, 0, none⟩) mn mn)) WW := by
    intro WW b5 hb h5
    subst hO
    subst ha
    simp only [Act.put, List.setIfInBounds_toArray, List.set_cons_zero, List.set_cons_succ] at L25
    simp only [Act.put, List.setIfInBounds_toArray, List.set_cons_zero, List.set_cons_succ] at L58
    (try simp only [Act.put, List.setIfInBounds_toArray, List.set_cons_zero, List.set_cons_succ])
    refine wpAnyH_ready (rs := [2, 8]) (by kernel_rfl) (by simp) (ready_cons (i := 2) rfl (by kernel_rfl) (fun KW hKW => ?_) (ready_cons (i := 8) rfl (by kernel_rfl) (fun KW hKW => ?_) (AllReadyH.nil)))
    · go_simp; refine hKW.out _ _ ?_ (fun hHeld => ?_); (focus (all_goals trivial))
      (try simp only [Act.put, List.setIfInBounds_toArray, List.set_cons_zero, List.set_cons_succ])
      exact L25 _ WW.heap.size b5 (by repeat (first | exact Below.refl _ _ | assumption | refine bel_drew ?_ | refine bel_drewN ?_ _ | refine bel_alloc ?_ _ | refine bel_trans ?_ (by assumption))) ⟨hb.size, World.alloc_heap_new _ _⟩ ⟨h5.1, (Below.heap_alloc _ _ _ (Array.getElem?_eq_some_iff.1 h5.2).1).trans h5.2⟩ (fun e => by have := (Array.getElem?_eq_some_iff.1 h5.2).1; omega)
    · go_simp; refine hKW.out _ _ ?_ (fun hHeld => ?_); (focus (all_goals trivial))
      (try simp only [Act.put, List.setIfInBounds_toArray, List.set_cons_zero, List.set_cons_succ])
      exact L58 _ b5 WW.heap.size (by repeat (first | exact Below.refl _ _ | assumption | refine bel_drew ?_ | refine bel_drewN ?_ _ | refine bel_alloc ?_ _ | refine bel_trans ?_ (by assumption))) ⟨h5.1, (Below.heap_alloc _ _ _ (Array.getElem?_eq_some_iff.1 h5.2).1).trans h5.2⟩ ⟨hb.size, World.alloc_heap_new _ _⟩ (fun e => by have := (Array.getElem?_eq_some_iff.1 h5.2).1; omega)
  have L8 : ∀ (WW : World) (b8 : Nat), Below W0.heap.size W0 WW → (W0.heap.size ≤ b8 ∧ WW.heap[b8]? = some (.cells #[.slice none 0 0, .slice none 0 0, .slice none 0 0, .int .i64 0] 56)) → wpAnyH Try.prog .any OPS Q' (fun W : World => True) 4 #[true, true, false, true, true, false, true, false, true, false] (a0.put (some 7) (.pointer (some ⟨b8, 0, none⟩))) WW := by
    intro WW b8 hb h8
    subst hO
    subst ha
    simp only [Act.put, List.setIfInBounds_toArray, List.set_cons_zero, List.set_cons_succ] at L28
    simp only [Act.put, List.setIfInBounds_toArray, List.set_cons_zero, List.set_cons_succ] at L58
    (try simp only [Act.put, List.setIfInBounds_toArray, List.set_cons_zero, List.set_cons_succ])
    refine wpAnyH_ready (rs := [2, 5]) (by kernel_rfl) (by simp) (ready_cons (i := 2) rfl (by kernel_rfl) (fun KW hKW => ?_) (ready_cons (i := 5) rfl (by kernel_rfl) (fun KW hKW => ?_) (AllReadyH.nil)))
    · go_simp; refine hKW.out _ _ ?_ (fun hHeld => ?_); (focus (all_goals trivial))
      (try simp only [Act.put, List.setIfInBounds_toArray, List.set_cons_zero, List.set_cons_succ])
      exact L28 _ WW.heap.size b8 (by repeat (first | exact Below.refl _ _ | assumption | refine bel_drew ?_ | refine bel_drewN ?_ _ | refine bel_alloc ?_ _ | refine bel_trans ?_ (by assumption))) ⟨hb.size, World.alloc_heap_new _ _⟩ ⟨h8.1, (Below.heap_alloc _ _ _ (Array.getElem?_eq_some_iff.1 h8.2).1).trans h8.2⟩ (fun e => by have := (Array.getElem?_eq_some_iff.1 h8.2).1; omega)
    · go_simp; refine hKW.out _ _ ?_ (fun hHeld => ?_); (focus (all_goals trivial))
      (try simp only [Act.put, List.setIfInBounds_toArray, List.set_cons_zero, List.set_cons_succ])
      exact L58 _ WW.heap.size b8 (by repeat (first | exact Below.refl _ _ | assumption | refine bel_drew ?_ | refine bel_drewN ?_ _ | refine bel_alloc ?_ _ | refine bel_trans ?_ (by assumption))) ⟨hb.size, World.alloc_heap_new _ _⟩ ⟨h8.1, (Below.heap_alloc _ _ _ (Array.getElem?_eq_some_iff.1 h8.2).1).trans h8.2⟩ (fun e => by have := (Array.getElem?_eq_some_iff.1 h8.2).1; omega)
  have L : ∀ (WW : World), Below W0.heap.size W0 WW → wpAnyH Try.prog .any OPS Q' (fun W : World => True) 5 #[true, true, false, true, true, false, true, false, false, false] a0 WW := by
    intro WW  hb 
    subst hO
    subst ha
    simp only [Act.put, List.setIfInBounds_toArray, List.set_cons_zero, List.set_cons_succ] at L2
    simp only [Act.put, List.setIfInBounds_toArray, List.set_cons_zero, List.set_cons_succ] at L5
    simp only [Act.put, List.setIfInBounds_toArray, List.set_cons_zero, List.set_cons_succ] at L8
    (try simp only [Act.put, List.setIfInBounds_toArray, List.set_cons_zero, List.set_cons_succ])
    refine wpAnyH_ready (rs := [2, 5, 8]) (by kernel_rfl) (by simp) (ready_cons (i := 2) rfl (by kernel_rfl) (fun KW hKW => ?_) (ready_cons (i := 5) rfl (by kernel_rfl) (fun KW hKW => ?_) (ready_cons (i := 8) rfl (by kernel_rfl) (fun KW hKW => ?_) (AllReadyH.nil))))
    · go_simp; refine hKW.out _ _ ?_ (fun hHeld => ?_); (focus (all_goals trivial))
      (try simp only [Act.put, List.setIfInBounds_toArray, List.set_cons_zero, List.set_cons_succ])
      exact L2 _ WW.heap.size (by repeat (first | exact Below.refl _ _ | assumption | refine bel_drew ?_ | refine bel_drewN ?_ _ | refine bel_alloc ?_ _ | refine bel_trans ?_ (by assumption))) ⟨hb.size, World.alloc_heap_new _ _⟩ 
    · go_simp; refine hKW.out _ _ ?_ (fun hHeld => ?_); (focus (all_goals trivial))
      (try simp only [Act.put, List.setIfInBounds_toArray, List.set_cons_zero, List.set_cons_succ])
      exact L5 _ WW.heap.size (by repeat (first | exact Below.refl _ _ | assumption | refine bel_drew ?_ | refine bel_drewN ?_ _ | refine bel_alloc ?_ _ | refine bel_trans ?_ (by assumption))) ⟨hb.size, World.alloc_heap_new _ _⟩ 
    · go_simp; refine hKW.out _ _ ?_ (fun hHeld => ?_); (focus (all_goals trivial))
      (try simp only [Act.put, List.setIfInBounds_toArray, List.set_cons_zero, List.set_cons_succ])
      exact L8 _ WW.heap.size (by repeat (first | exact Below.refl _ _ | assumption | refine bel_drew ?_ | refine bel_drewN ?_ _ | refine bel_alloc ?_ _ | refine bel_trans ?_ (by assumption))) ⟨hb.size, World.alloc_heap_new _ _⟩ 
  exact L _ (by repeat (first | exact Below.refl _ _ | assumption | refine bel_drew ?_ | refine bel_drewN ?_ _ | refine bel_alloc ?_ _ | refine bel_trans ?_ (by assumption)))
end Go.Proofs.Ythmjbfocpdiikaa
