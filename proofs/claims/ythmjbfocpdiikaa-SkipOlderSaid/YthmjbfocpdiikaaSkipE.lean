/-
  The reference of layer 34: Member, Why, Next.
-/
import Derived.Test.YthmjbfocpdiikaaSkipD
namespace Go.Proofs.Ythmjbfocpdiikaa
open Go.RowKit
set_option linter.unusedVariables false
set_option linter.unusedSimpArgs false
attribute [local go_sem] drewN_alloc drewN_setCell

def RMemRel (w : World) (id : Int) (l : List PO.Mem) (n : Nat) (i : Value) (wr : World) : Prop :=
  ∃ k : Nat, k ≤ n ∧ i = .int .i64 k ∧ (∀ j, j < k → decide ((l.getD j PO.m0).1 = id) = false) ∧ Below w.heap.size w wr
set_option maxHeartbeats 4000000 in
theorem ref34_Member {A : Option Addr} {n : Nat} {l : List PO.Mem} (c : Nat) (id : Int) {w : World} (h : MemAt w A n l) :
    Calls Try.prog 63 #[.slice A n c, .int .i64 id] w fun e w' => e = .returned (.int .i64 (SK.member l id)) ∧ Below w.heap.size w w' := by
  obtain ⟨R, hR⟩ : ∃ R, SK.member l id = R := ⟨_, rfl⟩
  rw [hR]
  have HR := Lib.hid hR
  have HX := Lib.hid h.1
  have HN := h.2.1
  have HC := Lib.hid h.2.2.2
  clear hR h
  go_enter Try.func63, Try.ntmps63
  go_wp2_with fail
  go_loopw [5] (fun i wr => RMemRel w id l n i wr) (fun i _ => n - (intOf i).toNat)
  case atStart => exact ⟨0, Nat.zero_le _, rfl, fun j hj => absurd hj (by omega), Below.refl _ _⟩
  case round =>
    obtain ⟨k, hk, rfl, hnot, hbel⟩ := hrel
    have HNOT := Lib.hid hnot
    clear hnot
    have j1 : (0 : Int) ≤ (k : Int) := by omega
    by_cases hlt : (k : Int) < n
    · obtain ⟨b, off, rfl, hb, hcs⟩ := HC.out (by omega)
      obtain ⟨x0, x1, x2, x3⟩ := (hcs k (by omega)).keep hbel hb
      obtain ⟨m, hm⟩ : ∃ m, l.getD k PO.m0 = m := ⟨_, rfl⟩
      rw [hm] at x0 x1 x2 x3
      have HM := Lib.hid hm
      clear hm hcs
      by_cases hq : m.1 = id
      · have HE : Hid ((k : Int) = R) := Lib.hid ((PO.idx_at (p := fun m => decide (m.1 = id)) (by rw [HX.out]; omega) HNOT.out (by rw [HM.out]; exact decide_eq_true hq)).symm.trans HR.out)
        have q1 : (m.1 == id) = true := by simpa using hq
        clear hq
        go_wp2_with fail
        go_ret
        exact ⟨ret_int HE.out, (by repeat (first | exact Below.refl _ _ | assumption | refine bel_drew ?_ | refine bel_drewN ?_ _ | refine bel_alloc ?_ _ | refine bel_set ?_ (by first | (dsimp only; omega) | (simp; done) | (simp; omega)) _ | refine bel_trans ?_ (by assumption)))⟩
      · have HE : Hid (∀ j, j < k + 1 → decide ((l.getD j PO.m0).1 = id) = false) := Lib.hid (fun j hj => by
          rcases Nat.lt_or_ge j k with h1 | h1
          · exact HNOT.out j h1
          · obtain rfl : j = k := by omega
            rw [HM.out]; exact decide_eq_false hq)
        have q1 : (m.1 == id) = false := by simpa using hq
        clear hq
        go_wp2_with fail
        go_roundw
        case rel => exact ⟨k + 1, by omega, by go_num, HE.out, (by repeat (first | exact Below.refl _ _ | assumption | refine bel_drew ?_ | refine bel_drewN ?_ _ | refine bel_alloc ?_ _ | refine bel_set ?_ (by first | (dsimp only; omega) | (simp; done) | (simp; omega)) _ | refine bel_trans ?_ (by assumption)))⟩
        case measure => simp [intOf]; omega
    · have HE : Hid ((-1 : Int) = R) := Lib.hid ((PO.idx_none (p := fun m => decide (m.1 = id)) (fun j hj => HNOT.out j (by rw [HX.out] at hj; omega))).symm.trans HR.out)
      go_wp2_with fail
      go_ret
      exact ⟨ret_int HE.out, (by repeat (first | exact Below.refl _ _ | assumption | refine bel_drew ?_ | refine bel_drewN ?_ _ | refine bel_alloc ?_ _ | refine bel_set ?_ (by first | (dsimp only; omega) | (simp; done) | (simp; omega)) _ | refine bel_trans ?_ (by assumption)))⟩

theorem any_take_true {ts : List SK.Tick} {k i : Nat} (hk : k < ts.length) (hi : i < k) (h : SK.cl ts i = SK.cl ts k) : SK.ahead ts k = true := by
  unfold SK.ahead
  rw [List.any_eq_true]
  refine ⟨ts.getD i SK.t0, ?_, decide_eq_true h⟩
  have hl : i < (ts.take k).length := by simp; omega
  have e : ts.getD i SK.t0 = (ts.take k)[i] := by simp [List.getD, show i < ts.length by omega]
  rw [e]
  exact List.getElem_mem hl
theorem any_take_false {ts : List SK.Tick} {k : Nat} (hk : k < ts.length) (h : ∀ i, i < k → SK.cl ts i ≠ SK.cl ts k) : SK.ahead ts k = false := by
  unfold SK.ahead
  rw [List.any_eq_false]
  intro t ht
  obtain ⟨i, hi, rfl⟩ := List.mem_iff_getElem.1 ht
  simp at hi
  have := h i (by omega)
  have e : SK.cl ts i = ((ts.take k)[i]'(by simp; omega)).2.1 := by simp [SK.cl, List.getD, show i < ts.length by omega]
  rw [e] at this
  simpa using this
theorem why_at {ts : List SK.Tick} {ms : List PO.Mem} {f wt : Int} {k : Nat} (hk : k < ts.length) : SK.why ts ms f wt (k : Int) = (if SK.member ms (SK.cl ts k) < 0 then 2 else if SK.ahead ts k = true then 3 else if PO.bmay f wt ms (SK.member ms (SK.cl ts k)) (ts.getD k SK.t0).2.2.1 = false then 4 else if 0 < k ∧ (ms.getD (SK.member ms (SK.cl ts k)).toNat PO.m0).2.2.1 = 0 ∧ 8 ≤ (ts.getD 0 SK.t0).2.2.2.2 then 5 else 0) := by
  unfold SK.why
  rw [if_neg (by omega)]
  simp only [Int.toNat_natCast, Int.natCast_pos]
def RAheadRel (w : World) (ts : List SK.Tick) (k : Nat) (i : Value) (wr : World) : Prop :=
  ∃ j : Nat, j ≤ k ∧ i = .int .i64 j ∧ (∀ i, i < j → SK.cl ts i ≠ SK.cl ts k) ∧ Below w.heap.size w wr

set_option maxRecDepth 100000 in
set_option maxHeartbeats 16000000 in
theorem ref34_Why {TA MA : Option Addr} {tn mn : Nat} {ts : List SK.Tick} {ms : List PO.Mem} (tc mc : Nat) (f wt a : Int) {w : World} (h : TickAt w TA tn ts) (hm : MemAt w MA mn ms) (hn : mn ≤ 1000) (bf : -9223372036854775808 ≤ f ∧ f ≤ 9223372036854775807) (bw : -9223372036854775808 ≤ wt ∧ wt ≤ 9223372036854775807) :
    Calls Try.prog 31 #[.slice TA tn tc, .int .i64 a, .int .i64 f, .int .i64 wt, .slice MA mn mc] w fun e w' => e = .returned (.int .i64 (SK.why ts ms f wt a)) ∧ Below w.heap.size w w' := by
  obtain ⟨Y, hY⟩ : ∃ Y, SK.why ts ms f wt a = Y := ⟨_, rfl⟩
  rw [hY]
  by_cases h1 : a < 0
  · have HE : Hid ((1 : Int) = Y) := Lib.hid (by rw [← hY]; unfold SK.why; rw [if_pos (.inl h1)])
    have g0 : decide (a < 0) = true := decide_eq_true h1
    clear h hm hY
    go_enter Try.func31, Try.ntmps31
    go_wp2_with fail
    go_ret
    exact ⟨ret_int HE.out, (by repeat (first | exact Below.refl _ _ | assumption | refine bel_drew ?_ | refine bel_drewN ?_ _ | refine bel_alloc ?_ _ | refine bel_set ?_ (by first | (dsimp only; omega) | (simp; done) | (simp; omega)) _ | refine bel_trans ?_ (by assumption)))⟩
  have g0 : decide (a < 0) = false := decide_eq_false h1
  by_cases h2 : (tn : Int) ≤ a
  · have HE : Hid ((1 : Int) = Y) := Lib.hid (by rw [← hY]; unfold SK.why; rw [if_pos (.inr (by rw [h.1]; exact h2))])
    have g1 : decide ((tn : Int) ≤ a) = true := decide_eq_true h2
    clear h hm hY
    go_enter Try.func31, Try.ntmps31
    go_wp2_with fail
    go_ret
    exact ⟨ret_int HE.out, (by repeat (first | exact Below.refl _ _ | assumption | refine bel_drew ?_ | refine bel_drewN ?_ _ | refine bel_alloc ?_ _ | refine bel_set ?_ (by first | (dsimp only; omega) | (simp; done) | (simp; omega)) _ | refine bel_trans ?_ (by assumption)))⟩
  obtain ⟨k, rfl⟩ : ∃ k : Nat, a = k := ⟨a.toNat, by omega⟩
  have hk : k < tn := by omega
  have hl := h.1
  have hlm := hm.1
  have hw := why_at (ts := ts) (ms := ms) (f := f) (wt := wt) (k := k) (by omega)
  rw [hY] at hw
  clear hY
  have htb := (h.bd hk).2.2.1
  have hmb := SK.idx_bd (fun m => decide (m.1 = SK.cl ts k)) ms
  have hmem : SK.member ms (SK.cl ts k) < 0 ∨ ∃ j : Nat, SK.member ms (SK.cl ts k) = (j : Int) ∧ j < mn := by
    by_cases h0 : SK.member ms (SK.cl ts k) < 0
    · exact .inl h0
    · obtain ⟨j, hj, hjm⟩ := SK.idx_lt (p := fun m => decide (m.1 = SK.cl ts k)) (l := ms) (by unfold SK.member at h0; omega)
      exact .inr ⟨j, hj, by omega⟩
  have K1 : Hid (∀ W, Below w.heap.size w W → Calls Try.prog 63 #[.slice MA mn mc, .int .i64 (ts.getD k SK.t0).2.1] W fun e w' => e = .returned (.int .i64 (SK.member ms (SK.cl ts k))) ∧ Below W.heap.size W w') := Lib.hid (fun W hW => ref34_Member mc _ (hm.keep hW))
  have K2 : Hid (∀ W, Below w.heap.size w W → Calls Try.prog 25 #[.int .i64 f, .int .i64 wt, .slice MA mn mc, .int .i64 (SK.member ms (SK.cl ts k)), .int .i64 (ts.getD k SK.t0).2.2.1] W fun e w' => e = .returned (.bool (PO.bmay f wt ms (SK.member ms (SK.cl ts k)) (ts.getD k SK.t0).2.2.1)) ∧ Below W.heap.size W w') := Lib.hid (fun W hW => ref29_May mc f wt _ _ (hm.keep hW) hn bf bw (by unfold SK.member; omega) htb)
  obtain ⟨b, off, rfl, hb, hc⟩ := h.2.2.2 (by omega)
  have HC := Lib.hid hc
  have HCM := Lib.hid hm.2.2.2
  have hAT : Hid (∀ i, i < k → SK.cl ts i = SK.cl ts k → SK.ahead ts k = true) := Lib.hid (fun i hi he => any_take_true (by omega) hi he)
  have hAF : Hid ((∀ i, i < k → SK.cl ts i ≠ SK.cl ts k) → SK.ahead ts k = false) := Lib.hid (fun hh => any_take_false (by omega) hh)
  obtain ⟨x0, x1, x2, x3, x4⟩ := hc k hk
  have HT : Hid (SK.cl ts k = (ts.getD k SK.t0).2.1) := Lib.hid rfl
  generalize PO.bmay f wt ms (SK.member ms (SK.cl ts k)) (ts.getD k SK.t0).2.2.1 = may at *
  generalize SK.member ms (SK.cl ts k) = r at *
  generalize SK.ahead ts k = ah at *
  obtain ⟨t, ht⟩ : ∃ t, ts.getD k SK.t0 = t := ⟨_, rfl⟩
  rw [ht] at K1 K2 HT x0 x1 x2 x3 x4
  replace ht := Lib.hid ht
  have HW := Lib.hid hw
  have hnm := h.2.1
  have hnm2 := hm.2.1
  have j0 : (0 : Int) ≤ (k : Int) := by omega
  have j1 : (k : Int) < (tn : Int) := by omega
  have j2 : ¬ tn ≤ k := by omega
  have j3 : 0 < tn := by omega
  have g1 : decide ((tn : Int) ≤ (k : Int)) = false := decide_eq_false h2
  have hbS := hb
  clear h hm hc hw hmb htb
  rcases hmem with hr | ⟨j, rfl, hjm⟩
  · have HE : Hid ((2 : Int) = Y) := Lib.hid (by rw [HW.out, if_pos hr])
    have g2 : decide (r < 0) = true := decide_eq_true hr
    clear HW
    go_enter Try.func31, Try.ntmps31
    go_wp2_with fail
    refine (K1.out _ (Below.refl _ _)).mono ?_
    rintro e w1 ⟨rfl, d1⟩
    go_wp2_with fail
    go_ret
    exact ⟨ret_int HE.out, (by repeat (first | exact Below.refl _ _ | assumption | refine bel_drew ?_ | refine bel_drewN ?_ _ | refine bel_alloc ?_ _ | refine bel_set ?_ (by first | (dsimp only; omega) | (simp; done) | (simp; omega)) _ | refine bel_trans ?_ (by assumption)))⟩
  have g2 : ¬ ((j : Int) < 0) := by omega
  have j5 : (0 : Int) ≤ (j : Int) := by omega
  have j6 : (j : Int) < (mn : Int) := by omega
  have HW2 : Hid (Y = (if ah = true then 3 else if may = false then 4 else if 0 < k ∧ (ms.getD j PO.m0).2.2.1 = 0 ∧ 8 ≤ (ts.getD 0 SK.t0).2.2.2.2 then 5 else 0)) := Lib.hid (by rw [HW.out, if_neg g2]; rfl)
  clear HW
  go_enter Try.func31, Try.ntmps31
  go_wp2_with fail
  refine (K1.out _ (Below.refl _ _)).mono ?_
  rintro e w1 ⟨rfl, d1⟩
  go_wp2_with fail
  go_loopw [12] (fun i wr => RAheadRel w ts k i wr) (fun i _ => k - (intOf i).toNat)
  case atStart => exact ⟨0, Nat.zero_le _, rfl, fun j hj => absurd hj (by omega), (by repeat (first | exact Below.refl _ _ | assumption | refine bel_drew ?_ | refine bel_drewN ?_ _ | refine bel_alloc ?_ _ | refine bel_set ?_ (by first | (dsimp only; omega) | (simp; done) | (simp; omega)) _ | refine bel_trans ?_ (by assumption)))⟩
  case round =>
    obtain ⟨i, hi, rfl, hnot, hbel⟩ := hrel
    have HNOT := Lib.hid hnot
    clear hnot x0 x1 x2 x3 x4
    obtain ⟨x0, x1, x2, x3, x4⟩ := (ht.out ▸ HC.out k hk : TickCells w b (off + k * 5) t).keep hbel hb
    have i1 : (0 : Int) ≤ (i : Int) := by omega
    by_cases hlt : i < k
    · have i2 : (i : Int) < (k : Int) := by omega
      have i3 : (i : Int) < (tn : Int) := by omega
      obtain ⟨y0, y1, y2, y3, y4⟩ := (HC.out i (by omega)).keep hbel hb
      obtain ⟨u, hu⟩ : ∃ u, ts.getD i SK.t0 = u := ⟨_, rfl⟩
      rw [hu] at y0 y1 y2 y3 y4
      replace hu : Hid (SK.cl ts i = u.2.1) := Lib.hid (by rw [← hu]; rfl)
      by_cases hq : u.2.1 = t.2.1
      · have HE : Hid ((3 : Int) = Y) := Lib.hid (by rw [HW2.out, if_pos (hAT.out i hlt (hu.out.trans (hq.trans HT.out.symm)))])
        have q1 : (u.2.1 == t.2.1) = true := by simpa using hq
        clear hq
        go_wp2_with fail
        go_quiet (fail)
        go_wp2_with fail
        go_ret
        exact ⟨ret_int HE.out, (by repeat (first | exact Below.refl _ _ | assumption | refine bel_drew ?_ | refine bel_drewN ?_ _ | refine bel_alloc ?_ _ | refine bel_set ?_ (by first | (dsimp only; omega) | (simp; done) | (simp; omega)) _ | refine bel_trans ?_ (by assumption)))⟩
      · have HE : Hid (∀ i', i' < i + 1 → SK.cl ts i' ≠ SK.cl ts k) := Lib.hid (fun i' h' => by
          rcases Nat.lt_or_ge i' i with h1 | h1
          · exact HNOT.out i' h1
          · obtain rfl : i' = i := by omega
            rw [hu.out, HT.out]; exact hq)
        have q1 : (u.2.1 == t.2.1) = false := by simpa using hq
        clear hq
        go_wp2_with fail
        go_quiet (fail)
        go_wp2_with fail
        go_roundw
        case rel => exact ⟨i + 1, by omega, by go_num, HE.out, (by repeat (first | exact Below.refl _ _ | assumption | refine bel_drew ?_ | refine bel_drewN ?_ _ | refine bel_alloc ?_ _ | refine bel_set ?_ (by first | (dsimp only; omega) | (simp; done) | (simp; omega)) _ | refine bel_trans ?_ (by assumption)))⟩
        case measure => simp [intOf]; omega
    · obtain rfl : i = k := by omega
      have HE := Lib.hid (hAF.out HNOT.out)
      have HW3 : Hid (Y = (if may = false then 4 else if 0 < i ∧ (ms.getD j PO.m0).2.2.1 = 0 ∧ 8 ≤ (ts.getD 0 SK.t0).2.2.2.2 then 5 else 0)) := Lib.hid (by rw [HW2.out, HE.out]; rfl)
      clear HE
      rcases may with _ | _
      · have HE2 : Hid ((4 : Int) = Y) := Lib.hid (by rw [HW3.out, if_pos rfl])
        go_wp2_with fail
        refine (K2.out _ (by exact (by repeat (first | exact Below.refl _ _ | assumption | refine bel_drew ?_ | refine bel_drewN ?_ _ | refine bel_alloc ?_ _ | refine bel_set ?_ (by first | (dsimp only; omega) | (simp; done) | (simp; omega)) _ | refine bel_trans ?_ (by assumption))))).mono ?_
        rintro e w2 ⟨rfl, d2⟩
        go_wp2_with fail
        go_ret
        exact ⟨ret_int HE2.out, (by repeat (first | exact Below.refl _ _ | assumption | refine bel_drew ?_ | refine bel_drewN ?_ _ | refine bel_alloc ?_ _ | refine bel_set ?_ (by first | (dsimp only; omega) | (simp; done) | (simp; omega)) _ | refine bel_trans ?_ (by assumption)))⟩
      · obtain ⟨b', off', rfl, hb', hc'⟩ := HCM.out (by omega)
        have HCJ := Lib.hid (hc' j hjm)
        clear hc'
        have HC0 := Lib.hid (HC.out 0 (by omega))
        obtain ⟨m, hm⟩ : ∃ m, ms.getD j PO.m0 = m := ⟨_, rfl⟩
        obtain ⟨v, hv⟩ : ∃ v, ts.getD 0 SK.t0 = v := ⟨_, rfl⟩
        rw [hm] at HCJ HW3
        rw [hv] at HC0 HW3
        clear hm hv
        go_wp2_with fail
        refine (K2.out _ (by exact (by repeat (first | exact Below.refl _ _ | assumption | refine bel_drew ?_ | refine bel_drewN ?_ _ | refine bel_alloc ?_ _ | refine bel_set ?_ (by first | (dsimp only; omega) | (simp; done) | (simp; omega)) _ | refine bel_trans ?_ (by assumption))))).mono ?_
        rintro e w2 ⟨rfl, d2⟩
        have d3 := bel_trans hbel d2
        obtain ⟨z0, z1, z2, z3⟩ := HCJ.out.keep d3 hb'
        obtain ⟨y0, y1, y2, y3, y4⟩ := HC0.out.keep d3 hb
        simp only [Nat.zero_mul, Nat.add_zero] at y4
        clear z0 z1 z3 y0 y1 y2 y3 x0 x1 x2 x3 x4
        by_cases h5 : 0 < i
        · have g5 : decide (0 < i) = true := decide_eq_true h5
          by_cases h6 : m.2.2.1 = 0
          · have g6 : (m.2.2.1 == 0) = true := by simpa using h6
            by_cases h7 : 8 ≤ v.2.2.2.2
            · have g7 : decide (8 ≤ v.2.2.2.2) = true := decide_eq_true h7
              have HE2 : Hid ((5 : Int) = Y) := Lib.hid (by rw [HW3.out, if_neg (by simp), if_pos ⟨h5, h6, h7⟩])
              clear h6
              go_wp2_with fail
              go_ret
              exact ⟨ret_int HE2.out, (by repeat (first | exact Below.refl _ _ | assumption | refine bel_drew ?_ | refine bel_drewN ?_ _ | refine bel_alloc ?_ _ | refine bel_set ?_ (by first | (dsimp only; omega) | (simp; done) | (simp; omega)) _ | refine bel_trans ?_ (by assumption)))⟩
            · have g7 : decide (8 ≤ v.2.2.2.2) = false := decide_eq_false h7
              have HE2 : Hid ((0 : Int) = Y) := Lib.hid (by rw [HW3.out, if_neg (by simp), if_neg (fun hh => h7 hh.2.2)])
              clear h6
              go_wp2_with fail
              go_ret
              exact ⟨ret_int HE2.out, (by repeat (first | exact Below.refl _ _ | assumption | refine bel_drew ?_ | refine bel_drewN ?_ _ | refine bel_alloc ?_ _ | refine bel_set ?_ (by first | (dsimp only; omega) | (simp; done) | (simp; omega)) _ | refine bel_trans ?_ (by assumption)))⟩
          · have g6 : (m.2.2.1 == 0) = false := by simpa using h6
            have HE2 : Hid ((0 : Int) = Y) := Lib.hid (by rw [HW3.out, if_neg (by simp), if_neg (fun hh => h6 hh.2.1)])
            clear h6
            go_wp2_with fail
            go_ret
            exact ⟨ret_int HE2.out, (by repeat (first | exact Below.refl _ _ | assumption | refine bel_drew ?_ | refine bel_drewN ?_ _ | refine bel_alloc ?_ _ | refine bel_set ?_ (by first | (dsimp only; omega) | (simp; done) | (simp; omega)) _ | refine bel_trans ?_ (by assumption)))⟩
        · have g5 : decide (0 < i) = false := decide_eq_false h5
          have HE2 : Hid ((0 : Int) = Y) := Lib.hid (by rw [HW3.out, if_neg (by simp), if_neg (fun hh => h5 hh.1)])
          go_wp2_with fail
          go_ret
          exact ⟨ret_int HE2.out, (by repeat (first | exact Below.refl _ _ | assumption | refine bel_drew ?_ | refine bel_drewN ?_ _ | refine bel_alloc ?_ _ | refine bel_set ?_ (by first | (dsimp only; omega) | (simp; done) | (simp; omega)) _ | refine bel_trans ?_ (by assumption)))⟩

set_option maxHeartbeats 4000000 in
theorem ref34_Next {TA MA : Option Addr} {tn mn : Nat} {ts : List SK.Tick} {ms : List PO.Mem} (tc mc : Nat) (f wt : Int) {w : World} (h : TickAt w TA tn ts) (hm : MemAt w MA mn ms) (hn : mn ≤ 1000) (bf : -9223372036854775808 ≤ f ∧ f ≤ 9223372036854775807) (bw : -9223372036854775808 ≤ wt ∧ wt ≤ 9223372036854775807) :
    Calls Try.prog 35 #[.slice TA tn tc, .int .i64 f, .int .i64 wt, .slice MA mn mc] w fun e w' => e = .returned (.int .i64 (SK.next ts ms f wt)) ∧ Below w.heap.size w w' := by
  obtain ⟨Y, hY⟩ : ∃ Y, SK.next ts ms f wt = Y := ⟨_, rfl⟩
  rw [hY]
  have HY := Lib.hid hY
  have HX := Lib.hid h.1
  have HN := h.2.1
  have K : Hid (∀ a W, Below w.heap.size w W → Calls Try.prog 31 #[.slice TA tn tc, .int .i64 a, .int .i64 f, .int .i64 wt, .slice MA mn mc] W fun e w' => e = .returned (.int .i64 (SK.why ts ms f wt a)) ∧ Below W.heap.size W w') := Lib.hid (fun a W hW => ref34_Why tc mc f wt a (h.keep hW) (hm.keep hW) hn bf bw)
  clear hY h hm
  go_enter Try.func35, Try.ntmps35
  go_wp2_with fail
  go_loopw [9] (fun i wr => SNextRel w ts ms f wt tn i wr) (fun i _ => tn - (intOf i).toNat)
  case atStart => exact ⟨0, Nat.zero_le _, rfl, fun j hj => absurd hj (by omega), Below.refl _ _⟩
  case round =>
    obtain ⟨k, hk, rfl, hnot, hbel⟩ := hrel
    have HNOT := Lib.hid hnot
    clear hnot
    have j1 : (0 : Int) ≤ (k : Int) := by omega
    by_cases hlt : (k : Int) < tn
    · have KP := Lib.hid (K.out (k : Int) wr hbel)
      by_cases hq : SK.why ts ms f wt (k : Int) = 0
      · rw [hq] at KP
        have HE : Hid ((k : Int) = Y) := Lib.hid ((SK.next_at (by rw [HX.out]; omega) HNOT.out hq).symm.trans HY.out)
        clear hq
        go_wp2_with fail
        refine KP.out.mono ?_
        rintro e w1 ⟨rfl, h1⟩
        go_wp2_with fail
        go_ret
        exact ⟨ret_int HE.out, (by repeat (first | exact Below.refl _ _ | assumption | refine bel_drew ?_ | refine bel_drewN ?_ _ | refine bel_alloc ?_ _ | refine bel_set ?_ (by first | (dsimp only; omega) | (simp; done) | (simp; omega)) _ | refine bel_trans ?_ (by assumption)))⟩
      · have q1 : (SK.why ts ms f wt (k : Int) == 0) = false := by simpa using hq
        have HE : Hid (∀ j : Nat, j < k + 1 → SK.why ts ms f wt (j : Int) ≠ 0) := Lib.hid (fun j hj => by
          rcases Nat.lt_or_ge j k with h1 | h1
          · exact HNOT.out j h1
          · obtain rfl : j = k := by omega
            exact hq)
        generalize SK.why ts ms f wt (k : Int) = yk at *
        clear hq
        go_wp2_with fail
        refine KP.out.mono ?_
        rintro e w1 ⟨rfl, h1⟩
        go_wp2_with fail
        go_roundw
        case rel => exact ⟨k + 1, by omega, by go_num, HE.out, (by repeat (first | exact Below.refl _ _ | assumption | refine bel_drew ?_ | refine bel_drewN ?_ _ | refine bel_alloc ?_ _ | refine bel_set ?_ (by first | (dsimp only; omega) | (simp; done) | (simp; omega)) _ | refine bel_trans ?_ (by assumption)))⟩
        case measure => simp [intOf]; omega
    · have HE : Hid ((-1 : Int) = Y) := Lib.hid ((SK.next_none (fun j hj => HNOT.out j (by rw [HX.out] at hj; omega))).symm.trans HY.out)
      go_wp2_with fail
      go_ret
      exact ⟨ret_int HE.out, (by repeat (first | exact Below.refl _ _ | assumption | refine bel_drew ?_ | refine bel_drewN ?_ _ | refine bel_alloc ?_ _ | refine bel_set ?_ (by first | (dsimp only; omega) | (simp; done) | (simp; omega)) _ | refine bel_trans ?_ (by assumption)))⟩

end Go.Proofs.Ythmjbfocpdiikaa
