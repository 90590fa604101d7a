/-
  Layer 8 (spans): Total, Gap, and the references' ones.
-/
import Derived.Test.YtfgfnfjeopjbgaaSpanD
namespace Go.Proofs.Ytfgfnfjeopjbgaa
open Go.RowKit
set_option linter.unusedVariables false
attribute [local go_sem] drewN_alloc drewN_setCell

def TotRel (w : World) (l : List PS.Sp) (n : Nat) (s i : Value) (wr : World) : Prop :=
  ∃ k : Nat, k ≤ n ∧ i = .int .i64 k ∧ s = .int .i64 (PS.sum (l.take k)) ∧ Below w.heap.size w wr

theorem spans_Total_no {A : Option Addr} {n : Nat} {l : List PS.Sp} (c : Nat) {w : World} (h : SpansAt w A n l) (hr : PS.right l = false) :
    Calls Try.prog 24 #[.slice A n c] w fun e w' => e = .returned (.int .i64 0) ∧ Below w.heap.size w w' := by
  have K := spans_Right c h
  rw [hr] at K
  replace K := Lib.hid K
  clear h hr
  go_enter Try.func24, Try.ntmps24
  go_wp2_with fail
  refine K.out.mono ?_
  rintro e w5 ⟨rfl, h5⟩
  go_wp2_with fail
  go_ret
  exact ⟨rfl, (by repeat (first | exact Below.refl _ _ | assumption | refine bel_drew ?_ | refine bel_drewN ?_ _ | refine bel_alloc ?_ _ | refine bel_set ?_ (by first | (dsimp only; omega) | (simp; done) | (simp; omega)) _ | refine bel_trans ?_ (by assumption)))⟩
theorem spans_Total_0 (A : Option Addr) (c : Nat) (w : World) :
    Calls Try.prog 24 #[.slice A 0 c] w fun e w' => e = .returned (.int .i64 0) ∧ Below w.heap.size w w' := by
  have K := spans_Right c (SpansAt.nil (A := A) (w := w))
  rw [show PS.right [] = true from rfl] at K
  replace K := Lib.hid K
  go_enter Try.func24, Try.ntmps24
  go_wp2_with fail
  refine K.out.mono ?_
  rintro e w5 ⟨rfl, h5⟩
  go_wp2_with fail
  refine wp_loop_rounds 1 ?_
  rw [rounds_succ]
  go_wp2_with fail
  go_ret
  exact ⟨rfl, (by repeat (first | exact Below.refl _ _ | assumption | refine bel_drew ?_ | refine bel_drewN ?_ _ | refine bel_alloc ?_ _ | refine bel_set ?_ (by first | (dsimp only; omega) | (simp; done) | (simp; omega)) _ | refine bel_trans ?_ (by assumption)))⟩

set_option maxHeartbeats 2000000 in
theorem spans_Total_some (b off n c : Nat) (l : List PS.Sp) (w : World) (h : SpansAt w (some ⟨b, off, none⟩) n l) (hr : PS.right l = true) :
    Calls Try.prog 24 #[.slice (some ⟨b, off, none⟩) n c] w fun e w' => e = .returned (.int .i64 (PS.sum l)) ∧ Below w.heap.size w w' := by
  have K := spans_Right c h
  rw [hr] at K
  replace K := Lib.hid K
  have hlen := h.1
  have hn := h.2.1
  have H := Lib.hid h
  have HL := Lib.hid hlen
  have HR := Lib.hid hr
  obtain ⟨R, hR⟩ : ∃ R, PS.sum l = R := ⟨_, rfl⟩
  rw [hR]
  replace hR := Lib.hid hR
  clear h hlen hr
  go_enter Try.func24, Try.ntmps24
  go_wp2_with fail
  refine K.out.mono ?_
  rintro e w5 ⟨rfl, h5⟩
  go_wp2_with fail
  go_loopw [3, 10] (fun s i wr => TotRel w l n s i wr) (fun _ i _ => n - (intOf i).toNat)
  case atStart => exact ⟨0, Nat.zero_le _, rfl, rfl, (by repeat (first | exact Below.refl _ _ | assumption | refine bel_drew ?_ | refine bel_drewN ?_ _ | refine bel_alloc ?_ _ | refine bel_set ?_ (by first | (dsimp only; omega) | (simp; done) | (simp; omega)) _ | refine bel_trans ?_ (by assumption)))⟩
  case round =>
    obtain ⟨k, hk, rfl, rfl, hbel⟩ := hrel
    have j1 : (0 : Int) ≤ (k : Int) := by omega
    by_cases hlt : (k : Int) < n
    · have hkl : k < l.length := by have := HL.out; omega
      obtain ⟨y, m, hs, x0, y0, bx1, by1⟩ := H.out.row hbel (k := k) (by omega)
      have hw := (PS.whole_iff _).1 (PS.right_whole HR.out hkl)
      have st := PS.sum_step hkl
      have s1 := PS.sum_bd k (by omega) HR.out
      have s2 := PS.sum_bd (k + 1) hkl HR.out
      have eb := PS.endOf_bd (PS.right_take HR.out (k + 1))
      rw [hs hkl] at hw st
      obtain ⟨w1, w2, w3⟩ := hw
      dsimp only at w1 w2 w3 st
      rw [st] at s2
      generalize PS.sum (l.take k) = T at *
      have b1 : 0 ≤ T := s1.1
      have b2 : T + m ≤ 9223372036854775807 := by omega
      have ST := Lib.hid st
      clear hs st s1 s2 eb
      go_wp2_with fail
      go_roundw
      case rel => exact ⟨k + 1, by omega, by go_num, by rw [ST.out], (by repeat (first | exact Below.refl _ _ | assumption | refine bel_drew ?_ | refine bel_drewN ?_ _ | refine bel_alloc ?_ _ | refine bel_set ?_ (by first | (dsimp only; omega) | (simp; done) | (simp; omega)) _ | refine bel_trans ?_ (by assumption)))⟩
      case measure => simp [intOf]; omega
    · have HK : PS.sum (l.take k) = R := by
        rw [← hR.out, List.take_of_length_le (by have := HL.out; omega)]
      generalize PS.sum (l.take k) = T at *
      replace HK := Lib.hid HK
      go_wp2_with fail
      go_ret
      exact ⟨ret_int HK.out, (by repeat (first | exact Below.refl _ _ | assumption | refine bel_drew ?_ | refine bel_drewN ?_ _ | refine bel_alloc ?_ _ | refine bel_set ?_ (by first | (dsimp only; omega) | (simp; done) | (simp; omega)) _ | refine bel_trans ?_ (by assumption)))⟩

theorem spans_Total {A : Option Addr} {n : Nat} {l : List PS.Sp} (c : Nat) {w : World} (h : SpansAt w A n l) :
    Calls Try.prog 24 #[.slice A n c] w fun e w' => e = .returned (.int .i64 (PS.total l)) ∧ Below w.heap.size w w' := by
  unfold PS.total
  rcases hr : PS.right l with _ | _
  · rw [if_neg (by simp)]
    exact spans_Total_no c h hr
  · rw [if_pos rfl]
    by_cases h0 : 0 < n
    · obtain ⟨b, off, rfl, -, -⟩ := h.2.2.2 h0
      exact spans_Total_some b off n c l w h hr
    · obtain rfl : n = 0 := by omega
      obtain rfl := List.eq_nil_of_length_eq_zero h.1
      exact spans_Total_0 A c w

theorem ref08_Total_no {A : Option Addr} {n : Nat} {l : List PS.Sp} (c : Nat) {w : World} (h : SpansAt w A n l) (hr : PS.right l = false) :
    Calls Try.prog 25 #[.slice A n c] w fun e w' => e = .returned (.int .i64 0) ∧ Below w.heap.size w w' := by
  have K := ref08_Right c h
  rw [hr] at K
  replace K := Lib.hid K
  clear h hr
  go_enter Try.func25, Try.ntmps25
  go_wp2_with fail
  refine wp_loop_rounds 1 ?_
  rw [rounds_succ]
  go_wp2_with fail
  refine K.out.mono ?_
  rintro e w5 ⟨rfl, h5⟩
  go_wp2_with fail
  go_ret
  exact ⟨rfl, (by repeat (first | exact Below.refl _ _ | assumption | refine bel_drew ?_ | refine bel_drewN ?_ _ | refine bel_alloc ?_ _ | refine bel_set ?_ (by first | (dsimp only; omega) | (simp; done) | (simp; omega)) _ | refine bel_trans ?_ (by assumption)))⟩
theorem ref08_Total_0 (A : Option Addr) (c : Nat) (w : World) :
    Calls Try.prog 25 #[.slice A 0 c] w fun e w' => e = .returned (.int .i64 0) ∧ Below w.heap.size w w' := by
  have K := ref08_Right c (SpansAt.nil (A := A) (w := w))
  rw [show PS.right [] = true from rfl] at K
  replace K := Lib.hid K
  go_enter Try.func25, Try.ntmps25
  go_wp2_with fail
  refine wp_loop_rounds 1 ?_
  rw [rounds_succ]
  go_wp2_with fail
  refine K.out.mono ?_
  rintro e w5 ⟨rfl, h5⟩
  go_wp2_with fail
  go_ret
  exact ⟨rfl, (by repeat (first | exact Below.refl _ _ | assumption | refine bel_drew ?_ | refine bel_drewN ?_ _ | refine bel_alloc ?_ _ | refine bel_set ?_ (by first | (dsimp only; omega) | (simp; done) | (simp; omega)) _ | refine bel_trans ?_ (by assumption)))⟩

set_option maxHeartbeats 2000000 in
theorem ref08_Total_some (b off n c : Nat) (l : List PS.Sp) (w : World) (h : SpansAt w (some ⟨b, off, none⟩) n l) (hr : PS.right l = true) :
    Calls Try.prog 25 #[.slice (some ⟨b, off, none⟩) n c] w fun e w' => e = .returned (.int .i64 (PS.sum l)) ∧ Below w.heap.size w w' := by
  have hlen := h.1
  have hn := h.2.1
  have H := Lib.hid h
  have HL := Lib.hid hlen
  have HR := Lib.hid hr
  obtain ⟨R, hR⟩ : ∃ R, PS.sum l = R := ⟨_, rfl⟩
  rw [hR]
  replace hR := Lib.hid hR
  clear h hlen hr
  go_enter Try.func25, Try.ntmps25
  go_wp2_with fail
  go_loopw [3, 4] (fun s i wr => TotRel w l n s i wr) (fun _ i _ => n - (intOf i).toNat)
  case atStart => exact ⟨0, Nat.zero_le _, rfl, rfl, (by repeat (first | exact Below.refl _ _ | assumption | refine bel_drew ?_ | refine bel_drewN ?_ _ | refine bel_alloc ?_ _ | refine bel_set ?_ (by first | (dsimp only; omega) | (simp; done) | (simp; omega)) _ | refine bel_trans ?_ (by assumption)))⟩
  case round =>
    obtain ⟨k, hk, rfl, rfl, hbel⟩ := hrel
    have j1 : (0 : Int) ≤ (k : Int) := by omega
    have K := ref08_Right c (H.out.keep hbel)
    rw [HR.out] at K
    replace K := Lib.hid K
    by_cases hlt : (k : Int) < n
    · have hkl : k < l.length := by have := HL.out; omega
      have hrow := fun W (hW : Below w.heap.size w W) => H.out.row hW (k := k) (by omega)
      replace hrow := Lib.hid hrow
      have hw := (PS.whole_iff _).1 (PS.right_whole HR.out hkl)
      have st := PS.sum_step hkl
      have s1 := PS.sum_bd k (by omega) HR.out
      have s2 := PS.sum_bd (k + 1) hkl HR.out
      have eb := PS.endOf_bd (PS.right_take HR.out (k + 1))
      generalize PS.sum (l.take k) = T at *
      replace hw := Lib.hid hw
      replace st := Lib.hid st
      replace s1 := Lib.hid s1
      replace s2 := Lib.hid s2
      replace eb := Lib.hid eb
      go_wp2_with fail
      refine K.out.mono ?_
      rintro e w5 ⟨rfl, h5⟩
      obtain ⟨y, m, hs, x0, y0, bx1, by1⟩ := hrow.out w5 (bel_trans hbel h5)
      have w123 := hw.out
      have st' := st.out
      rw [hs hkl] at w123 st'
      obtain ⟨w1, w2, w3⟩ := w123
      dsimp only at w1 w2 w3 st'
      have s2' := s2.out
      rw [st'] at s2'
      have b1 : 0 ≤ T := s1.out.1
      have b2 : T + m ≤ 9223372036854775807 := by have := eb.out; omega
      have ST := Lib.hid st'
      clear hs st' s2'
      go_wp2_with fail
      go_roundw
      case rel => exact ⟨k + 1, by omega, by go_num, by rw [ST.out], (by repeat (first | exact Below.refl _ _ | assumption | refine bel_drew ?_ | refine bel_drewN ?_ _ | refine bel_alloc ?_ _ | refine bel_set ?_ (by first | (dsimp only; omega) | (simp; done) | (simp; omega)) _ | refine bel_trans ?_ (by assumption)))⟩
      case measure => simp [intOf]; omega
    · have HK : PS.sum (l.take k) = R := by
        rw [← hR.out, List.take_of_length_le (by have := HL.out; omega)]
      generalize PS.sum (l.take k) = T at *
      replace HK := Lib.hid HK
      go_wp2_with fail
      refine K.out.mono ?_
      rintro e w5 ⟨rfl, h5⟩
      go_wp2_with fail
      go_ret
      exact ⟨ret_int HK.out, (by repeat (first | exact Below.refl _ _ | assumption | refine bel_drew ?_ | refine bel_drewN ?_ _ | refine bel_alloc ?_ _ | refine bel_set ?_ (by first | (dsimp only; omega) | (simp; done) | (simp; omega)) _ | refine bel_trans ?_ (by assumption)))⟩

theorem ref08_Total {A : Option Addr} {n : Nat} {l : List PS.Sp} (c : Nat) {w : World} (h : SpansAt w A n l) :
    Calls Try.prog 25 #[.slice A n c] w fun e w' => e = .returned (.int .i64 (PS.total l)) ∧ Below w.heap.size w w' := by
  unfold PS.total
  rcases hr : PS.right l with _ | _
  · rw [if_neg (by simp)]
    exact ref08_Total_no c h hr
  · rw [if_pos rfl]
    by_cases h0 : 0 < n
    · obtain ⟨b, off, rfl, -, -⟩ := h.2.2.2 h0
      exact ref08_Total_some b off n c l w h hr
    · obtain rfl : n = 0 := by omega
      obtain rfl := List.eq_nil_of_length_eq_zero h.1
      exact ref08_Total_0 A c w
end Go.Proofs.Ytfgfnfjeopjbgaa
