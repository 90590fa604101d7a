/-
  Layer 8 (spans): Gap, and the reference's.
-/
import Derived.Test.YtfgfnfjeopjbgaaSpanD
namespace Go.Proofs.Ytfgfnfjeopjbgaa
open Go.RowKit
set_option linter.unusedVariables false
attribute [local go_sem] drewN_alloc drewN_setCell

def GapRel (w : World) (l : List PS.Sp) (size : Int) (n : Nat) (a i : Value) (wr : World) : Prop :=
  ∃ k : Nat, k ≤ n ∧ i = .int .i64 k ∧ a = .int .i64 (PS.endOf (l.take k)) ∧ PS.ga size 0 l = PS.ga size (PS.endOf (l.take k)) (l.drop k) ∧ Below w.heap.size w wr

theorem spans_Gap_no {A : Option Addr} {n : Nat} {l : List PS.Sp} (c : Nat) (s t : Int) {w : World} (h : SpansAt w A n l) (hr : PS.right l = false ∨ s < 1) :
    Calls Try.prog 26 #[.slice A n c, .int .i64 s, .int .i64 t] w fun e w' => e = .returned (.int .i64 (-1)) ∧ Below w.heap.size w w' := by
  have K := spans_Right c h
  clear h
  rcases hb : PS.right l with _ | _
  · rw [hb] at K
    replace K := Lib.hid K
    clear hr hb
    go_enter Try.func26, Try.ntmps26
    go_wp2_with fail
    refine K.out.mono ?_
    rintro e w5 ⟨rfl, h5⟩
    go_wp2_with fail
    go_ret
    exact ⟨rfl, (by repeat (first | exact Below.refl _ _ | assumption | refine bel_drew ?_ | refine bel_drewN ?_ _ | refine bel_alloc ?_ _ | refine bel_set ?_ (by first | (dsimp only; omega) | (simp; done) | (simp; omega)) _ | refine bel_trans ?_ (by assumption)))⟩
  · rw [hb] at K
    replace K := Lib.hid K
    have hs : s < 1 := hr.resolve_left (by rw [hb]; simp)
    clear hr hb
    go_enter Try.func26, Try.ntmps26
    go_wp2_with fail
    refine K.out.mono ?_
    rintro e w5 ⟨rfl, h5⟩
    go_wp2_with fail
    go_ret
    exact ⟨rfl, (by repeat (first | exact Below.refl _ _ | assumption | refine bel_drew ?_ | refine bel_drewN ?_ _ | refine bel_alloc ?_ _ | refine bel_set ?_ (by first | (dsimp only; omega) | (simp; done) | (simp; omega)) _ | refine bel_trans ?_ (by assumption)))⟩

set_option maxHeartbeats 2000000 in
theorem spans_Gap_0 (A : Option Addr) (c : Nat) (s t : Int) (w : World) (hs : 1 ≤ s ∧ s ≤ 9223372036854775807) (ht : -9223372036854775808 ≤ t ∧ t ≤ 9223372036854775807) :
    Calls Try.prog 26 #[.slice A 0 c, .int .i64 s, .int .i64 t] w fun e w' => e = .returned (.int .i64 (PS.gap [] s t)) ∧ Below w.heap.size w w' := by
  have K := spans_Right c (SpansAt.nil (A := A) (w := w))
  rw [show PS.right [] = true from rfl] at K
  have g : PS.gap [] s t = if s ≤ t - 0 ∧ 0 ≤ t then 0 else -1 := by unfold PS.gap PS.ga; rw [if_pos ⟨rfl, hs.1⟩]
  rw [g]
  replace K := Lib.hid K
  clear g
  obtain ⟨s1, s2⟩ := hs
  obtain ⟨t1, t2⟩ := ht
  by_cases h1 : t < s
  · rw [if_neg (by omega)]
    go_enter Try.func26, Try.ntmps26
    go_wp2_with fail
    refine K.out.mono ?_
    rintro e w5 ⟨rfl, h5⟩
    go_wp2_with fail
    refine wp_loop_rounds 1 ?_
    rw [rounds_succ]
    go_wp2_with fail
    go_ret
    exact ⟨rfl, (by repeat (first | exact Below.refl _ _ | assumption | refine bel_drew ?_ | refine bel_drewN ?_ _ | refine bel_alloc ?_ _ | refine bel_set ?_ (by first | (dsimp only; omega) | (simp; done) | (simp; omega)) _ | refine bel_trans ?_ (by assumption)))⟩
  · rw [if_pos (by omega)]
    have h2 : 0 ≤ t := by omega
    replace h1 : s ≤ t := by omega
    go_enter Try.func26, Try.ntmps26
    go_wp2_with fail
    refine K.out.mono ?_
    rintro e w5 ⟨rfl, h5⟩
    go_wp2_with fail
    refine wp_loop_rounds 1 ?_
    rw [rounds_succ]
    go_wp2_with fail
    go_ret
    exact ⟨rfl, (by repeat (first | exact Below.refl _ _ | assumption | refine bel_drew ?_ | refine bel_drewN ?_ _ | refine bel_alloc ?_ _ | refine bel_set ?_ (by first | (dsimp only; omega) | (simp; done) | (simp; omega)) _ | refine bel_trans ?_ (by assumption)))⟩

set_option maxHeartbeats 4000000 in
theorem spans_Gap_some (b off n c : Nat) (l : List PS.Sp) (s t : Int) (w : World) (h : SpansAt w (some ⟨b, off, none⟩) n l) (hr : PS.right l = true) (hs : 1 ≤ s ∧ s ≤ 9223372036854775807) (ht : -9223372036854775808 ≤ t ∧ t ≤ 9223372036854775807) :
    Calls Try.prog 26 #[.slice (some ⟨b, off, none⟩) n c, .int .i64 s, .int .i64 t] w fun e w' => e = .returned (.int .i64 (PS.gap l s t)) ∧ Below w.heap.size w w' := by
  have K := spans_Right c h
  rw [hr] at K
  replace K := Lib.hid K
  have hlen := h.1
  have hn := h.2.1
  have H := Lib.hid h
  have HL := Lib.hid hlen
  have HR := Lib.hid hr
  have gg : PS.gap l s t = if s ≤ t - PS.ga s 0 l ∧ PS.ga s 0 l ≤ t then PS.ga s 0 l else -1 := by unfold PS.gap; rw [if_pos ⟨hr, hs.1⟩]
  obtain ⟨R, hR⟩ : ∃ R, PS.gap l s t = R := ⟨_, rfl⟩
  rw [hR]
  rw [hR] at gg
  have GG := Lib.hid gg
  obtain ⟨s1, s2⟩ := hs
  obtain ⟨t1, t2⟩ := ht
  clear h hlen hr gg hR
  go_enter Try.func26, Try.ntmps26
  go_wp2_with fail
  refine K.out.mono ?_
  rintro e w5 ⟨rfl, h5⟩
  go_wp2_with fail
  go_loopw [7, 19] (fun a i wr => GapRel w l s n a i wr) (fun _ i _ => n - (intOf i).toNat)
  case atStart => exact ⟨0, Nat.zero_le _, rfl, rfl, rfl, (by repeat (first | exact Below.refl _ _ | assumption | refine bel_drew ?_ | refine bel_drewN ?_ _ | refine bel_alloc ?_ _ | refine bel_set ?_ (by first | (dsimp only; omega) | (simp; done) | (simp; omega)) _ | refine bel_trans ?_ (by assumption)))⟩
  case round =>
    obtain ⟨k, hk, rfl, rfl, hg, hbel⟩ := hrel
    have j1 : (0 : Int) ≤ (k : Int) := by omega
    have eb := PS.endOf_bd (PS.right_take HR.out k)
    by_cases hlt : (k : Int) < n
    · have hkl : k < l.length := by have := HL.out; omega
      obtain ⟨y, m, hs, x0, y0, bx1, by1⟩ := H.out.row hbel (k := k) (by omega)
      have hw := (PS.whole_iff _).1 (PS.right_whole HR.out hkl)
      have st := PS.ga_step hkl s (PS.endOf (l.take k))
      have se := PS.endOf_step hkl
      have sr := PS.right_step hkl
      rw [PS.right_take HR.out, PS.right_take HR.out] at sr
      simp only [Bool.true_and, Bool.true_eq, Bool.and_eq_true, decide_eq_true_eq] at sr
      rw [← hg] at st
      rw [hs hkl] at hw st se sr
      obtain ⟨w1, w2, w3⟩ := hw
      dsimp only at w1 w2 w3 st se sr
      generalize PS.endOf (l.take k) = E at *
      obtain ⟨e1, e2⟩ := eb
      have sr2 := sr.2
      by_cases hsz : s ≤ y - E
      · rw [if_pos hsz] at st
        have gg := GG.out
        rw [st] at gg
        replace gg := Lib.hid gg
        clear hs hg st se sr
        by_cases h2 : E ≤ t
        · by_cases h3 : t - E < s
          · have hres : -1 = R := by rw [gg.out, if_neg (by omega)]
            replace hres := Lib.hid hres
            go_wp2_with fail
            go_ret
            exact ⟨ret_int hres.out, (by repeat (first | exact Below.refl _ _ | assumption | refine bel_drew ?_ | refine bel_drewN ?_ _ | refine bel_alloc ?_ _ | refine bel_set ?_ (by first | (dsimp only; omega) | (simp; done) | (simp; omega)) _ | refine bel_trans ?_ (by assumption)))⟩
          · have hres : E = R := by rw [gg.out, if_pos (by omega)]
            replace hres := Lib.hid hres
            replace h3 : s ≤ t - E := by omega
            go_wp2_with fail
            go_ret
            exact ⟨ret_int hres.out, (by repeat (first | exact Below.refl _ _ | assumption | refine bel_drew ?_ | refine bel_drewN ?_ _ | refine bel_alloc ?_ _ | refine bel_set ?_ (by first | (dsimp only; omega) | (simp; done) | (simp; omega)) _ | refine bel_trans ?_ (by assumption)))⟩
        · have hres : -1 = R := by rw [gg.out, if_neg (by omega)]
          replace hres := Lib.hid hres
          replace h2 : t < E := by omega
          go_wp2_with fail
          all_goals
            go_ret
            exact ⟨ret_int hres.out, (by repeat (first | exact Below.refl _ _ | assumption | refine bel_drew ?_ | refine bel_drewN ?_ _ | refine bel_alloc ?_ _ | refine bel_set ?_ (by first | (dsimp only; omega) | (simp; done) | (simp; omega)) _ | refine bel_trans ?_ (by assumption)))⟩
      · rw [if_neg hsz] at st
        have ST := Lib.hid st
        have SE := Lib.hid se
        replace hsz : y - E < s := by omega
        clear hs hg st se sr
        go_wp2_with fail
        go_roundw
        case rel => exact ⟨k + 1, by omega, by go_num, by rw [SE.out]; rfl, by rw [SE.out]; exact ST.out, (by repeat (first | exact Below.refl _ _ | assumption | refine bel_drew ?_ | refine bel_drewN ?_ _ | refine bel_alloc ?_ _ | refine bel_set ?_ (by first | (dsimp only; omega) | (simp; done) | (simp; omega)) _ | refine bel_trans ?_ (by assumption)))⟩
        case measure => simp [intOf]; omega
    · have hkn : k = n := by omega
      rw [PS.ga_end (by have := HL.out; omega)] at hg
      have gg := GG.out
      rw [hg] at gg
      replace gg := Lib.hid gg
      clear hg hkn
      generalize PS.endOf (l.take k) = E at *
      obtain ⟨e1, e2⟩ := eb
      by_cases h2 : E ≤ t
      · by_cases h3 : t - E < s
        · have hres : -1 = R := by rw [gg.out, if_neg (by omega)]
          replace hres := Lib.hid hres
          go_wp2_with fail
          go_ret
          exact ⟨ret_int hres.out, (by repeat (first | exact Below.refl _ _ | assumption | refine bel_drew ?_ | refine bel_drewN ?_ _ | refine bel_alloc ?_ _ | refine bel_set ?_ (by first | (dsimp only; omega) | (simp; done) | (simp; omega)) _ | refine bel_trans ?_ (by assumption)))⟩
        · have hres : E = R := by rw [gg.out, if_pos (by omega)]
          replace hres := Lib.hid hres
          replace h3 : s ≤ t - E := by omega
          go_wp2_with fail
          go_ret
          exact ⟨ret_int hres.out, (by repeat (first | exact Below.refl _ _ | assumption | refine bel_drew ?_ | refine bel_drewN ?_ _ | refine bel_alloc ?_ _ | refine bel_set ?_ (by first | (dsimp only; omega) | (simp; done) | (simp; omega)) _ | refine bel_trans ?_ (by assumption)))⟩
      · have hres : -1 = R := by rw [gg.out, if_neg (by omega)]
        replace hres := Lib.hid hres
        replace h2 : t < E := by omega
        go_wp2_with fail
        all_goals
          go_ret
          exact ⟨ret_int hres.out, (by repeat (first | exact Below.refl _ _ | assumption | refine bel_drew ?_ | refine bel_drewN ?_ _ | refine bel_alloc ?_ _ | refine bel_set ?_ (by first | (dsimp only; omega) | (simp; done) | (simp; omega)) _ | refine bel_trans ?_ (by assumption)))⟩

theorem spans_Gap {A : Option Addr} {n : Nat} {l : List PS.Sp} (c : Nat) (s t : Int) {w : World} (h : SpansAt w A n l) (hs : -9223372036854775808 ≤ s ∧ s ≤ 9223372036854775807) (ht : -9223372036854775808 ≤ t ∧ t ≤ 9223372036854775807) :
    Calls Try.prog 26 #[.slice A n c, .int .i64 s, .int .i64 t] w fun e w' => e = .returned (.int .i64 (PS.gap l s t)) ∧ Below w.heap.size w w' := by
  by_cases hh : PS.right l = true ∧ 1 ≤ s
  · by_cases h0 : 0 < n
    · obtain ⟨b, off, rfl, -, -⟩ := h.2.2.2 h0
      exact spans_Gap_some b off n c l s t w h hh.1 ⟨hh.2, hs.2⟩ ht
    · obtain rfl : n = 0 := by omega
      obtain rfl := List.eq_nil_of_length_eq_zero h.1
      exact spans_Gap_0 A c s t w ⟨hh.2, hs.2⟩ ht
  · rw [show PS.gap l s t = -1 by unfold PS.gap; rw [if_neg hh]]
    refine spans_Gap_no c s t h ?_
    rcases hb : PS.right l with _ | _
    · exact .inl rfl
    · exact .inr (by have : ¬ 1 ≤ s := fun x => hh ⟨hb, x⟩; omega)
end Go.Proofs.Ytfgfnfjeopjbgaa
