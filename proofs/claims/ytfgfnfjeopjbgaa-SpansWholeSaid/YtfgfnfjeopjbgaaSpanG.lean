/-
  Layer 8 (spans): the reference's Gap.
-/
import Derived.Test.YtfgfnfjeopjbgaaSpanF
namespace Go.Proofs.Ytfgfnfjeopjbgaa
open Go.RowKit
set_option linter.unusedVariables false
attribute [local go_sem] drewN_alloc drewN_setCell

theorem gap_early {l : List PS.Sp} {s t : Int} (h : t < s) : PS.gap l s t = -1 := by
  unfold PS.gap
  by_cases hh : PS.right l = true ∧ 1 ≤ s
  · rw [if_pos hh]
    have := PS.ga_bd s l 0 hh.1 (by omega) (by omega)
    rw [if_neg (by omega)]
  · rw [if_neg hh]

theorem ref08_Gap_no {A : Option Addr} {n : Nat} {l : List PS.Sp} (c : Nat) (s t : Int) {w : World} (h : SpansAt w A n l) (hr : PS.right l = false ∨ s < 1 ∨ t < s) :
    Calls Try.prog 27 #[.slice A n c, .int .i64 s, .int .i64 t] w fun e w' => e = .returned (.int .i64 (-1)) ∧ Below w.heap.size w w' := by
  have K := ref08_Right c h
  clear h
  rcases hb : PS.right l with _ | _
  · rw [hb] at K
    replace K := Lib.hid K
    clear hr hb
    go_enter Try.func27, Try.ntmps27
    go_wp2_with fail
    refine K.out.mono ?_
    rintro e w5 ⟨rfl, h5⟩
    go_wp2_with fail
    go_ret
    exact ⟨rfl, (by repeat (first | exact Below.refl _ _ | assumption | refine bel_drew ?_ | refine bel_drewN ?_ _ | refine bel_alloc ?_ _ | refine bel_set ?_ (by first | (dsimp only; omega) | (simp; done) | (simp; omega)) _ | refine bel_trans ?_ (by assumption)))⟩
  · rw [hb] at K
    replace K := Lib.hid K
    have hs : s < 1 ∨ t < s := hr.resolve_left (by rw [hb]; simp)
    clear hr hb
    by_cases h1 : s < 1
    · clear hs
      go_enter Try.func27, Try.ntmps27
      go_wp2_with fail
      refine K.out.mono ?_
      rintro e w5 ⟨rfl, h5⟩
      go_wp2_with fail
      go_ret
      exact ⟨rfl, (by repeat (first | exact Below.refl _ _ | assumption | refine bel_drew ?_ | refine bel_drewN ?_ _ | refine bel_alloc ?_ _ | refine bel_set ?_ (by first | (dsimp only; omega) | (simp; done) | (simp; omega)) _ | refine bel_trans ?_ (by assumption)))⟩
    · have h2 : t < s := hs.resolve_left h1
      replace h1 : 1 ≤ s := by omega
      clear hs
      go_enter Try.func27, Try.ntmps27
      go_wp2_with fail
      refine K.out.mono ?_
      rintro e w5 ⟨rfl, h5⟩
      go_wp2_with fail
      go_ret
      exact ⟨rfl, (by repeat (first | exact Below.refl _ _ | assumption | refine bel_drew ?_ | refine bel_drewN ?_ _ | refine bel_alloc ?_ _ | refine bel_set ?_ (by first | (dsimp only; omega) | (simp; done) | (simp; omega)) _ | refine bel_trans ?_ (by assumption)))⟩

theorem ref08_Gap_0 (A : Option Addr) (c : Nat) (s t : Int) (w : World) (hs : 1 ≤ s ∧ s ≤ 9223372036854775807) (ht : s ≤ t ∧ t ≤ 9223372036854775807) :
    Calls Try.prog 27 #[.slice A 0 c, .int .i64 s, .int .i64 t] w fun e w' => e = .returned (.int .i64 (PS.gap [] s t)) ∧ Below w.heap.size w w' := by
  have K := ref08_Right c (SpansAt.nil (A := A) (w := w))
  rw [show PS.right [] = true from rfl] at K
  have g : PS.gap [] s t = if s ≤ t - 0 ∧ 0 ≤ t then 0 else -1 := by unfold PS.gap PS.ga; rw [if_pos ⟨rfl, hs.1⟩]
  rw [g, if_pos (by omega)]
  replace K := Lib.hid K
  clear g
  obtain ⟨s1, s2⟩ := hs
  obtain ⟨t1, t2⟩ := ht
  have t3 : 0 ≤ t := by omega
  go_enter Try.func27, Try.ntmps27
  go_wp2_with fail
  refine K.out.mono ?_
  rintro e w5 ⟨rfl, h5⟩
  go_wp2_with fail
  refine wp_loop_rounds 1 ?_
  rw [rounds_succ]
  go_wp2_with fail
  go_ret
  exact ⟨rfl, (by repeat (first | exact Below.refl _ _ | assumption | refine bel_drew ?_ | refine bel_drewN ?_ _ | refine bel_alloc ?_ _ | refine bel_set ?_ (by first | (dsimp only; omega) | (simp; done) | (simp; omega)) _ | refine bel_trans ?_ (by assumption)))⟩

def GapRel' (w : World) (l : List PS.Sp) (size : Int) (n : Nat) (i : Value) (wr : World) : Prop :=
  ∃ k : Nat, k ≤ n ∧ i = .int .i64 ((k : Int) - 1) ∧ PS.ga size 0 l = PS.ga size (PS.endOf (l.take k)) (l.drop k) ∧ Below w.heap.size w wr

set_option maxRecDepth 100000 in
set_option maxHeartbeats 8000000 in
theorem ref08_Gap_some (b off n c : Nat) (l : List PS.Sp) (s t : Int) (w : World) (h : SpansAt w (some ⟨b, off, none⟩) n l) (h0 : 0 < n) (hr : PS.right l = true) (hs : 1 ≤ s ∧ s ≤ 9223372036854775807) (ht : s ≤ t ∧ t ≤ 9223372036854775807) :
    Calls Try.prog 27 #[.slice (some ⟨b, off, none⟩) n c, .int .i64 s, .int .i64 t] w fun e w' => e = .returned (.int .i64 (PS.gap l s t)) ∧ Below w.heap.size w w' := by
  have K := ref08_Right c h
  rw [hr] at K
  replace K := Lib.hid K
  have hlen := h.1
  have hn := h.2.1
  have H := Lib.hid h
  have HL := Lib.hid hlen
  have HR := Lib.hid hr
  have gg : PS.gap l s t = if s ≤ t - PS.ga s 0 l ∧ PS.ga s 0 l ≤ t then PS.ga s 0 l else -1 := by unfold PS.gap; rw [if_pos ⟨hr, hs.1⟩]
  obtain ⟨R, hR⟩ : ∃ R, PS.gap l s t = R := ⟨_, rfl⟩
  rw [hR]
  rw [hR] at gg
  have GG := Lib.hid gg
  obtain ⟨s1, s2⟩ := hs
  obtain ⟨t1, t2⟩ := ht
  have t3 : 0 ≤ t := by omega
  clear h hlen hr gg hR
  go_enter Try.func27, Try.ntmps27
  go_wp2_with fail
  refine K.out.mono ?_
  rintro e w5 ⟨rfl, h5⟩
  go_wp2_with fail
  go_loopw [7] (fun i wr => GapRel' w l s n i wr) (fun i _ => (n - intOf i).toNat)
  case atStart => exact ⟨0, Nat.zero_le _, rfl, rfl, (by repeat (first | exact Below.refl _ _ | assumption | refine bel_drew ?_ | refine bel_drewN ?_ _ | refine bel_alloc ?_ _ | refine bel_set ?_ (by first | (dsimp only; omega) | (simp; done) | (simp; omega)) _ | refine bel_trans ?_ (by assumption)))⟩
  case round =>
    obtain ⟨k, hk, rfl, hg, hbel⟩ := hrel
    have eb := PS.endOf_bd (PS.right_take HR.out k)
    by_cases hk0 : k = 0
    · subst hk0
      have hkl : 0 < l.length := by have := HL.out; omega
      obtain ⟨y, m, hs, x0, y0, bx1, by1⟩ := H.out.row hbel (k := 0) (by omega)
      have hw := (PS.whole_iff _).1 (PS.right_whole HR.out hkl)
      have st := PS.ga_step hkl s (PS.endOf (l.take 0))
      have se := PS.endOf_step hkl
      rw [← hg] at st
      rw [hs hkl] at hw st se
      obtain ⟨w1, w2, w3⟩ := hw
      have hE : PS.endOf (l.take 0) = 0 := rfl
      rw [hE] at st
      dsimp only at w1 w2 w3 st se
      simp only [Nat.zero_mul, Nat.add_zero, Nat.zero_add] at x0 y0 se st
      rw [show ((0 : Nat) : Int) - 1 = -1 from rfl]
      have j1 : (0 : Int) < n := by omega
      by_cases hsz : s ≤ y
      · rw [if_pos (by omega)] at st
        have gg := GG.out
        rw [st, if_pos (by omega)] at gg
        replace gg := Lib.hid gg
        clear hs hg st se hE eb
        go_wp2_with fail
        go_ret
        exact ⟨ret_int gg.out.symm, (by repeat (first | exact Below.refl _ _ | assumption | refine bel_drew ?_ | refine bel_drewN ?_ _ | refine bel_alloc ?_ _ | refine bel_set ?_ (by first | (dsimp only; omega) | (simp; done) | (simp; omega)) _ | refine bel_trans ?_ (by assumption)))⟩
      · rw [if_neg (by omega)] at st
        have ST := Lib.hid st
        have SE := Lib.hid se
        replace hsz : y < s := by omega
        clear hs hg st se hE eb
        go_wp2_with fail
        go_roundw
        case rel => exact ⟨1, by omega, rfl, by rw [SE.out]; exact ST.out, (by repeat (first | exact Below.refl _ _ | assumption | refine bel_drew ?_ | refine bel_drewN ?_ _ | refine bel_alloc ?_ _ | refine bel_set ?_ (by first | (dsimp only; omega) | (simp; done) | (simp; omega)) _ | refine bel_trans ?_ (by assumption)))⟩
        case measure => first | (simp [intOf]; done) | (simp [intOf]; omega)
    · obtain ⟨j, rfl⟩ : ∃ j, k = j + 1 := ⟨k - 1, by omega⟩
      have hjl : j < l.length := by have := HL.out; omega
      obtain ⟨px, py, hp, p0, q0, bp1, bp2⟩ := H.out.row hbel (k := j) (by omega)
      have hpw := (PS.whole_iff _).1 (PS.right_whole HR.out hjl)
      have pe := PS.endOf_step hjl
      rw [hp hjl] at hpw pe
      obtain ⟨v1, v2, v3⟩ := hpw
      unfold PS.fin at pe
      dsimp only at v1 v2 v3 pe
      rw [show ((j + 1 : Nat) : Int) - 1 = j by omega]
      have j1 : (0 : Int) ≤ (j : Int) := by omega
      have j2 : (j : Int) < n := by omega
      have j3 : (0 : Int) ≤ (j : Int) + 1 := by omega
      have j4 : ((j : Int) + 1).toNat = j + 1 := by omega
      obtain ⟨E, hE⟩ : ∃ E, px + py = E := ⟨_, rfl⟩
      rw [hE] at pe v3
      have e1 : 0 ≤ E := by omega
      rw [pe] at hg
      by_cases hlt : (j : Int) + 1 < n
      · have hkl : j + 1 < l.length := by have := HL.out; omega
        obtain ⟨y, m, hs, x0, y0, bx1, by1⟩ := H.out.row hbel (k := j + 1) (by omega)
        have hw := (PS.whole_iff _).1 (PS.right_whole HR.out hkl)
        have st := PS.ga_step hkl s E
        have se := PS.endOf_step hkl
        have sr := PS.right_step hkl
        rw [PS.right_take HR.out, PS.right_take HR.out, pe] at sr
        simp only [Bool.true_and, Bool.true_eq, Bool.and_eq_true, decide_eq_true_eq] at sr
        rw [← hg] at st
        rw [hs hkl] at hw st se sr
        obtain ⟨w1, w2, w3⟩ := hw
        dsimp only at w1 w2 w3 st se sr
        have sr2 := sr.2
        by_cases hsz : s ≤ y - E
        · rw [if_pos hsz] at st
          have gg := GG.out
          rw [st] at gg
          replace gg := Lib.hid gg
          clear hs hg st se sr hp pe eb hk0
          by_cases h2 : E ≤ t
          · by_cases h3 : s ≤ t - E
            · have hres : E = R := by rw [gg.out, if_pos ⟨h3, h2⟩]
              replace hres := Lib.hid hres
              go_wp2_with fail
              go_quiet (fail)
              go_wp2_with fail
              go_ret
              exact ⟨ret_int hres.out, (by repeat (first | exact Below.refl _ _ | assumption | refine bel_drew ?_ | refine bel_drewN ?_ _ | refine bel_alloc ?_ _ | refine bel_set ?_ (by first | (dsimp only; omega) | (simp; done) | (simp; omega)) _ | refine bel_trans ?_ (by assumption)))⟩
            · have hres : -1 = R := by rw [gg.out, if_neg (fun x => h3 x.1)]
              replace hres := Lib.hid hres
              replace h3 : t - E < s := by omega
              go_wp2_with fail
              go_quiet (fail)
              go_wp2_with fail
              go_ret
              exact ⟨ret_int hres.out, (by repeat (first | exact Below.refl _ _ | assumption | refine bel_drew ?_ | refine bel_drewN ?_ _ | refine bel_alloc ?_ _ | refine bel_set ?_ (by first | (dsimp only; omega) | (simp; done) | (simp; omega)) _ | refine bel_trans ?_ (by assumption)))⟩
          · have hres : -1 = R := by rw [gg.out, if_neg (fun x => h2 x.2)]
            replace hres := Lib.hid hres
            replace h2 : t < E := by omega
            go_wp2_with fail
            go_quiet (fail)
            go_wp2_with fail
            go_ret
            exact ⟨ret_int hres.out, (by repeat (first | exact Below.refl _ _ | assumption | refine bel_drew ?_ | refine bel_drewN ?_ _ | refine bel_alloc ?_ _ | refine bel_set ?_ (by first | (dsimp only; omega) | (simp; done) | (simp; omega)) _ | refine bel_trans ?_ (by assumption)))⟩
        · rw [if_neg hsz] at st
          have ST := Lib.hid st
          have SE := Lib.hid se
          replace hsz : y - E < s := by omega
          clear hs hg st se sr hp pe eb hk0
          go_wp2_with fail
          go_quiet (fail)
          go_wp2_with fail
          go_roundw
          case rel => exact ⟨j + 1 + 1, by omega, by go_num, by rw [SE.out]; exact ST.out, (by repeat (first | exact Below.refl _ _ | assumption | refine bel_drew ?_ | refine bel_drewN ?_ _ | refine bel_alloc ?_ _ | refine bel_set ?_ (by first | (dsimp only; omega) | (simp; done) | (simp; omega)) _ | refine bel_trans ?_ (by assumption)))⟩
          case measure => simp [intOf]; omega
      · have hkn : j + 1 = n := by omega
        rw [PS.ga_end (by have := HL.out; omega)] at hg
        have gg := GG.out
        rw [hg] at gg
        replace gg := Lib.hid gg
        replace hlt : (n : Int) ≤ (j : Int) + 1 := by omega
        clear hg hkn hp pe eb hk0
        by_cases h2 : E ≤ t
        · by_cases h3 : s ≤ t - E
          · have hres : E = R := by rw [gg.out, if_pos ⟨h3, h2⟩]
            replace hres := Lib.hid hres
            go_wp2_with fail
            go_quiet (fail)
            go_wp2_with fail
            go_ret
            exact ⟨ret_int hres.out, (by repeat (first | exact Below.refl _ _ | assumption | refine bel_drew ?_ | refine bel_drewN ?_ _ | refine bel_alloc ?_ _ | refine bel_set ?_ (by first | (dsimp only; omega) | (simp; done) | (simp; omega)) _ | refine bel_trans ?_ (by assumption)))⟩
          · have hres : -1 = R := by rw [gg.out, if_neg (fun x => h3 x.1)]
            replace hres := Lib.hid hres
            replace h3 : t - E < s := by omega
            go_wp2_with fail
            go_quiet (fail)
            go_wp2_with fail
            go_ret
            exact ⟨ret_int hres.out, (by repeat (first | exact Below.refl _ _ | assumption | refine bel_drew ?_ | refine bel_drewN ?_ _ | refine bel_alloc ?_ _ | refine bel_set ?_ (by first | (dsimp only; omega) | (simp; done) | (simp; omega)) _ | refine bel_trans ?_ (by assumption)))⟩
        · have hres : -1 = R := by rw [gg.out, if_neg (fun x => h2 x.2)]
          replace hres := Lib.hid hres
          replace h2 : t < E := by omega
          go_wp2_with fail
          go_quiet (fail)
          go_wp2_with fail
          go_ret
          exact ⟨ret_int hres.out, (by repeat (first | exact Below.refl _ _ | assumption | refine bel_drew ?_ | refine bel_drewN ?_ _ | refine bel_alloc ?_ _ | refine bel_set ?_ (by first | (dsimp only; omega) | (simp; done) | (simp; omega)) _ | refine bel_trans ?_ (by assumption)))⟩

theorem ref08_Gap {A : Option Addr} {n : Nat} {l : List PS.Sp} (c : Nat) (s t : Int) {w : World} (h : SpansAt w A n l) (hs : -9223372036854775808 ≤ s ∧ s ≤ 9223372036854775807) (ht : -9223372036854775808 ≤ t ∧ t ≤ 9223372036854775807) :
    Calls Try.prog 27 #[.slice A n c, .int .i64 s, .int .i64 t] w fun e w' => e = .returned (.int .i64 (PS.gap l s t)) ∧ Below w.heap.size w w' := by
  by_cases hh : PS.right l = true ∧ 1 ≤ s
  · by_cases hst : s ≤ t
    · by_cases h0 : 0 < n
      · obtain ⟨b, off, rfl, -, -⟩ := h.2.2.2 h0
        exact ref08_Gap_some b off n c l s t w h h0 hh.1 ⟨hh.2, hs.2⟩ ⟨hst, ht.2⟩
      · obtain rfl : n = 0 := by omega
        obtain rfl := List.eq_nil_of_length_eq_zero h.1
        exact ref08_Gap_0 A c s t w ⟨hh.2, hs.2⟩ ⟨hst, ht.2⟩
    · rw [gap_early (by omega)]
      exact ref08_Gap_no c s t h (.inr (.inr (by omega)))
  · rw [show PS.gap l s t = -1 by unfold PS.gap; rw [if_neg hh]]
    refine ref08_Gap_no c s t h ?_
    rcases hb : PS.right l with _ | _
    · exact .inl rfl
    · exact .inr (.inl (by have : ¬ 1 ≤ s := fun x => hh ⟨hb, x⟩; omega))
end Go.Proofs.Ytfgfnfjeopjbgaa
