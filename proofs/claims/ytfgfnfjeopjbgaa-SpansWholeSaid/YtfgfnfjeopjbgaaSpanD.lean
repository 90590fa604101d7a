/-
  Layer 8 (spans): Find, Total, Gap, and the references' ones.
-/
import Derived.Test.YtfgfnfjeopjbgaaSpanC
import Derived.Test.YtfgfnfjeopjbgaaPlainSpans2
namespace Go.Proofs.Ytfgfnfjeopjbgaa
open Go.RowKit
set_option linter.unusedVariables false
attribute [local go_sem] drewN_alloc drewN_setCell

theorem SpansAt.row {w wr : World} {b off n : Nat} {l : List PS.Sp} (h : SpansAt w (some ⟨b, off, none⟩) n l) (hb : Below w.heap.size w wr) {k : Nat} (hk : k < n) :
    ∃ x y : Int, (∀ h : k < l.length, l[k] = (x, y)) ∧ wr.cell? ⟨b, off + k * 2, none⟩ = some (.int .i64 x) ∧ wr.cell? ⟨b, off + k * 2 + 1, none⟩ = some (.int .i64 y) ∧
      (-9223372036854775808 ≤ x ∧ x ≤ 9223372036854775807) ∧ (-9223372036854775808 ≤ y ∧ y ≤ 9223372036854775807) := by
  obtain ⟨b', off', he, hbb, hc⟩ := h.2.2.2 (by omega)
  obtain ⟨rfl, rfl⟩ : b = b' ∧ off = off' := by simpa using he
  have hl := h.1
  have bd := h.bd hk
  refine ⟨(l.getD k (0, 0)).1, (l.getD k (0, 0)).2, fun h' => (getD_at h').symm, (hb.cell (p := ⟨b, off + k * 2, none⟩) hbb).trans (hc k hk).1, (hb.cell (p := ⟨b, off + k * 2 + 1, none⟩) hbb).trans (hc k hk).2, bd.1, bd.2⟩

theorem find1 (p x y n : Int) (bx : Nat) (w : World) (c : w.cell? ⟨bx, 0, none⟩ = some (.int .i64 x)) (hb : bx < w.heap.size) (hx : x ≤ 9223372036854775807) (hp : 0 ≤ y) :
    Calls Try.prog 77 #[.agg #[.int .i64 y, .int .i64 n], .pointer (some ⟨bx, 0, none⟩)] w fun e w' => e = .returned (.bool (PS.has x (y, n))) ∧ Below w.heap.size w w' := by
  have c' := cell_alloc (.cells #[.int .i64 y, .int .i64 n] 37) hb c
  unfold PS.has
  by_cases h1 : y ≤ x
  · rw [decide_eq_true h1, Bool.true_and]
    go_enter Try.func77, Try.ntmps77
    go_wp2_with fail
    go_ret
    exact ⟨rfl, (by repeat (first | exact Below.refl _ _ | assumption | refine bel_drew ?_ | refine bel_drewN ?_ _ | refine bel_alloc ?_ _ | refine bel_set ?_ (by first | (dsimp only; omega) | (simp; done) | (simp; omega)) _ | refine bel_trans ?_ (by assumption)))⟩
  · rw [decide_eq_false h1, Bool.false_and]
    replace h1 : x < y := by omega
    go_enter Try.func77, Try.ntmps77
    go_wp2_with fail
    go_ret
    exact ⟨rfl, (by repeat (first | exact Below.refl _ _ | assumption | refine bel_drew ?_ | refine bel_drewN ?_ _ | refine bel_alloc ?_ _ | refine bel_set ?_ (by first | (dsimp only; omega) | (simp; done) | (simp; omega)) _ | refine bel_trans ?_ (by assumption)))⟩

def IdxRel (w : World) (l : List PS.Sp) (x : Int) (n : Nat) (i : Value) (wr : World) : Prop :=
  ∃ k : Nat, k ≤ n ∧ i = .int .i64 k ∧ (∀ j, j < k → ∀ (hj : j < l.length), PS.has x l[j] = false) ∧ Below w.heap.size w wr

set_option maxHeartbeats 2000000 in
theorem find_IndexFunc (b off n c : Nat) (l : List PS.Sp) (bx : Nat) (x : Int) (w : World) (h : SpansAt w (some ⟨b, off, none⟩) n l) (hr : PS.right l = true) (cx : w.cell? ⟨bx, 0, none⟩ = some (.int .i64 x)) (hbx : bx < w.heap.size) (hx : x ≤ 9223372036854775807) :
    Calls Try.prog 76 #[.slice (some ⟨b, off, none⟩) n c, .func (.func 77) #[] #[.pointer (some ⟨bx, 0, none⟩)]] w fun e w' => e = .returned (.int .i64 (PS.idx l x)) ∧ Below w.heap.size w w' := by
  have hlen := h.1
  have hn := h.2.1
  have H := Lib.hid h
  have HL := Lib.hid hlen
  have HR := Lib.hid hr
  obtain ⟨R, hR⟩ : ∃ R, PS.idx l x = R := ⟨_, rfl⟩
  rw [hR]
  replace hR := Lib.hid hR
  replace cx := Lib.hid cx
  clear h hlen hr
  go_enter Try.func76, Try.ntmps76
  go_wp2_with fail
  go_loopw [8] (fun i wr => IdxRel w l x n i wr) (fun i _ => n - (intOf i).toNat)
  case atStart => exact ⟨0, Nat.zero_le _, rfl, fun j hj => absurd hj (by omega), Below.refl _ _⟩
  case round =>
    obtain ⟨k, hk, rfl, hpre, hbel⟩ := hrel
    have j1 : (0 : Int) ≤ (k : Int) := by omega
    by_cases hlt : (k : Int) < n
    · have hkl : k < l.length := by have := HL.out; omega
      obtain ⟨y, m, hs, x0, y0, bx1, by1⟩ := H.out.row hbel (k := k) (by omega)
      have hw := (PS.whole_iff _).1 (PS.right_whole HR.out hkl)
      rw [hs hkl] at hw
      obtain ⟨w1, w2, w3⟩ := hw
      dsimp only at w1 w2 w3
      have F := find1 0 x y m bx wr (cell_after hbel hbx cx.out) (Nat.lt_of_lt_of_le hbx hbel.size) hx w1
      rcases hh : PS.has x (y, m) with _ | _
      · rw [hh] at F
        have HP : IdxRel w l x n (.int .i64 (k + 1 : Nat)) wr := ⟨k + 1, by omega, rfl, fun j hj hjl => by
          by_cases e : j = k
          · subst e; rw [hs hjl]; exact hh
          · exact hpre j (by omega) hjl, hbel⟩
        replace HP := Lib.hid HP
        replace F := Lib.hid F
        clear hpre hh hs
        go_wp2_with fail
        refine F.out.mono ?_
        rintro e w5 ⟨rfl, h5⟩
        go_wp2_with fail
        go_roundw
        case rel =>
          obtain ⟨k', a1, a2, a3, a4⟩ := HP.out
          exact ⟨k', a1, by rw [← a2]; go_num, a3, (by repeat (first | exact Below.refl _ _ | assumption | refine bel_drew ?_ | refine bel_drewN ?_ _ | refine bel_alloc ?_ _ | refine bel_set ?_ (by first | (dsimp only; omega) | (simp; done) | (simp; omega)) _ | refine bel_trans ?_ (by assumption)))⟩
        case measure => simp [intOf]; omega
      · rw [hh] at F
        have HK : R = k := by
          rw [← hR.out]
          exact PS.idx_at hkl (by rw [hs hkl]; exact hh) hpre
        replace HK := Lib.hid HK
        replace F := Lib.hid F
        clear hpre hh hs
        go_wp2_with fail
        refine F.out.mono ?_
        rintro e w5 ⟨rfl, h5⟩
        go_wp2_with fail
        go_ret
        exact ⟨ret_int HK.out.symm, (by repeat (first | exact Below.refl _ _ | assumption | refine bel_drew ?_ | refine bel_drewN ?_ _ | refine bel_alloc ?_ _ | refine bel_set ?_ (by first | (dsimp only; omega) | (simp; done) | (simp; omega)) _ | refine bel_trans ?_ (by assumption)))⟩
    · have HK : R = -1 := by
        rw [← hR.out]
        exact PS.idx_none (fun j hj => hpre j (by have := HL.out; omega) hj)
      replace HK := Lib.hid HK
      clear hpre
      go_wp2_with fail
      go_ret
      exact ⟨ret_int HK.out.symm, (by repeat (first | exact Below.refl _ _ | assumption | refine bel_drew ?_ | refine bel_drewN ?_ _ | refine bel_alloc ?_ _ | refine bel_set ?_ (by first | (dsimp only; omega) | (simp; done) | (simp; omega)) _ | refine bel_trans ?_ (by assumption)))⟩

theorem find_IndexFunc_0 (A : Option Addr) (c : Nat) (fv : Value) (w : World) :
    Calls Try.prog 76 #[.slice A 0 c, fv] w fun e w' => e = .returned (.int .i64 (-1)) ∧ Below w.heap.size w w' := by
  go_enter Try.func76, Try.ntmps76
  go_wp2_with fail
  refine wp_loop_rounds 1 ?_
  rw [rounds_succ]
  go_wp2_with fail
  go_ret
  exact ⟨rfl, (by repeat (first | exact Below.refl _ _ | assumption | refine bel_drew ?_ | refine bel_drewN ?_ _ | refine bel_alloc ?_ _ | refine bel_set ?_ (by first | (dsimp only; omega) | (simp; done) | (simp; omega)) _ | refine bel_trans ?_ (by assumption)))⟩

theorem spans_Find {A : Option Addr} {n : Nat} {l : List PS.Sp} (c : Nat) (x : Int) {w : World} (h : SpansAt w A n l) (hx : x ≤ 9223372036854775807) :
    Calls Try.prog 22 #[.slice A n c, .int .i64 x] w fun e w' => e = .returned (.int .i64 (PS.find l x)) ∧ Below w.heap.size w w' := by
  have hmf : ∀ (fn : Fn) (first cap : Array Value) (w : World), (Instr.makeFunc fn first cap).run Try.prog w = .ok (.func fn first cap) w := fun _ _ _ _ => rfl
  have K := spans_Right c (h.keep (bel_alloc (Below.refl _ _) (.cells #[.int .i64 x] 3)))
  unfold PS.find
  rcases hr : PS.right l with _ | _
  · rw [hr] at K
    rw [if_neg (by simp)]
    replace K := Lib.hid K
    clear h hr
    go_enter Try.func22, Try.ntmps22
    go_wp2_with fail
    refine K.out.mono ?_
    rintro e w5 ⟨rfl, h5⟩
    go_wp2_with fail
    go_ret
    exact ⟨rfl, (by repeat (first | exact Below.refl _ _ | assumption | refine bel_drew ?_ | refine bel_drewN ?_ _ | refine bel_alloc ?_ _ | refine bel_set ?_ (by first | (dsimp only; omega) | (simp; done) | (simp; omega)) _ | refine bel_trans ?_ (by assumption)))⟩
  · rw [hr] at K
    rw [if_pos rfl]
    have F : ∀ W, Below (w.alloc (.cells #[.int .i64 x] 3)).heap.size (w.alloc (.cells #[.int .i64 x] 3)) W → Calls Try.prog 76 #[.slice A n c, .func (.func 77) #[] #[.pointer (some ⟨w.heap.size, 0, none⟩)]] W fun e w' => e = .returned (.int .i64 (PS.idx l x)) ∧ Below W.heap.size W w' := fun W hW => by
      have hW' := h.keep (bel_trans (bel_alloc (Below.refl _ _) (.cells #[.int .i64 x] 3)) hW)
      by_cases h0 : 0 < n
      · obtain ⟨b, off, rfl, -, -⟩ := h.2.2.2 h0
        exact find_IndexFunc b off n c l w.heap.size x W hW' hr (cell_after hW (by simp) (by simp [go_sem])) (Nat.lt_of_lt_of_le (by simp) hW.size) hx
      · obtain rfl : n = 0 := by omega
        obtain rfl := List.eq_nil_of_length_eq_zero h.1
        exact find_IndexFunc_0 A c _ W
    replace K := Lib.hid K
    replace F := Lib.hid F
    generalize PS.idx l x = R at *
    clear h hr
    go_enter Try.func22, Try.ntmps22
    go_wp2_with fail
    refine K.out.mono ?_
    rintro e w5 ⟨rfl, h5⟩
    have h6 := Lib.hid h5
    go_wp2_with fail
    refine (F.out _ h6.out).mono ?_
    rintro e w7 ⟨rfl, h7⟩
    go_wp2_with fail
    go_ret
    exact ⟨rfl, (by repeat (first | exact Below.refl _ _ | assumption | refine bel_drew ?_ | refine bel_drewN ?_ _ | refine bel_alloc ?_ _ | refine bel_set ?_ (by first | (dsimp only; omega) | (simp; done) | (simp; omega)) _ | refine bel_trans ?_ (by assumption)))⟩

theorem ref08_Find_no {A : Option Addr} {n : Nat} {l : List PS.Sp} (c : Nat) (x : Int) {w : World} (h : SpansAt w A n l) (hr : PS.right l = false) :
    Calls Try.prog 23 #[.slice A n c, .int .i64 x] w fun e w' => e = .returned (.int .i64 (-1)) ∧ Below w.heap.size w w' := by
  have K := ref08_Right c h
  rw [hr] at K
  replace K := Lib.hid K
  clear h hr
  go_enter Try.func23, Try.ntmps23
  go_wp2_with fail
  refine wp_loop_rounds 1 ?_
  rw [rounds_succ]
  go_wp2_with fail
  refine K.out.mono ?_
  rintro e w5 ⟨rfl, h5⟩
  go_wp2_with fail
  go_ret
  exact ⟨rfl, (by repeat (first | exact Below.refl _ _ | assumption | refine bel_drew ?_ | refine bel_drewN ?_ _ | refine bel_alloc ?_ _ | refine bel_set ?_ (by first | (dsimp only; omega) | (simp; done) | (simp; omega)) _ | refine bel_trans ?_ (by assumption)))⟩

theorem ref08_Find_0 (A : Option Addr) (c : Nat) (x : Int) (w : World) :
    Calls Try.prog 23 #[.slice A 0 c, .int .i64 x] w fun e w' => e = .returned (.int .i64 (-1)) ∧ Below w.heap.size w w' := by
  have K := ref08_Right c (SpansAt.nil (A := A) (w := w))
  replace K := Lib.hid K
  go_enter Try.func23, Try.ntmps23
  go_wp2_with fail
  refine wp_loop_rounds 1 ?_
  rw [rounds_succ]
  go_wp2_with fail
  refine K.out.mono ?_
  rintro e w5 ⟨he, h5⟩
  rw [show PS.right [] = true from rfl] at he
  subst he
  go_wp2_with fail
  go_ret
  exact ⟨rfl, (by repeat (first | exact Below.refl _ _ | assumption | refine bel_drew ?_ | refine bel_drewN ?_ _ | refine bel_alloc ?_ _ | refine bel_set ?_ (by first | (dsimp only; omega) | (simp; done) | (simp; omega)) _ | refine bel_trans ?_ (by assumption)))⟩

set_option maxRecDepth 100000 in
set_option maxHeartbeats 2000000 in
theorem ref08_Find_some (b off n c : Nat) (l : List PS.Sp) (x : Int) (w : World) (h : SpansAt w (some ⟨b, off, none⟩) n l) (hr : PS.right l = true) (hx : x ≤ 9223372036854775807) :
    Calls Try.prog 23 #[.slice (some ⟨b, off, none⟩) n c, .int .i64 x] w fun e w' => e = .returned (.int .i64 (PS.idx l x)) ∧ Below w.heap.size w w' := by
  have hlen := h.1
  have hn := h.2.1
  have H := Lib.hid h
  have HL := Lib.hid hlen
  have HR := Lib.hid hr
  obtain ⟨R, hR⟩ : ∃ R, PS.idx l x = R := ⟨_, rfl⟩
  rw [hR]
  replace hR := Lib.hid hR
  clear h hlen hr
  go_enter Try.func23, Try.ntmps23
  go_wp2_with fail
  go_loopw [5] (fun i wr => IdxRel w l x n i wr) (fun i _ => n - (intOf i).toNat)
  case atStart => exact ⟨0, Nat.zero_le _, rfl, fun j hj => absurd hj (by omega), Below.refl _ _⟩
  case round =>
    obtain ⟨k, hk, rfl, hpre, hbel⟩ := hrel
    have j1 : (0 : Int) ≤ (k : Int) := by omega
    have K := ref08_Right c (H.out.keep hbel)
    rw [HR.out] at K
    replace K := Lib.hid K
    by_cases hlt : (k : Int) < n
    · have hkl : k < l.length := by have := HL.out; omega
      have hrow := fun W (hW : Below w.heap.size w W) => H.out.row hW (k := k) (by omega)
      replace hrow := Lib.hid hrow
      have hw := (PS.whole_iff _).1 (PS.right_whole HR.out hkl)
      have HP := Lib.hid hpre
      replace hw := Lib.hid hw
      clear hpre
      go_wp2_with fail
      refine K.out.mono ?_
      rintro e w5 ⟨rfl, h5⟩
      obtain ⟨y, m, hs, x0, y0, bx1, by1⟩ := hrow.out w5 (bel_trans hbel h5)
      have w123 := hw.out
      rw [hs hkl] at w123
      obtain ⟨w1, w2, w3⟩ := w123
      dsimp only at w1 w2 w3
      by_cases h1 : y ≤ x
      · have d1 : decide (y ≤ x) = true := decide_eq_true h1
        by_cases h2 : x - y < m
        · have d2 : decide (x - y < m) = true := decide_eq_true h2
          have HK : R = k := by
            rw [← hR.out]
            exact PS.idx_at hkl (by rw [hs hkl]; unfold PS.has; simp only [d1, d2, Bool.and_self]) HP.out
          replace HK := Lib.hid HK
          clear hs
          go_wp2_with fail
          go_quiet (fail)
          go_wp2_with fail
          go_ret
          exact ⟨ret_int HK.out.symm, (by repeat (first | exact Below.refl _ _ | assumption | refine bel_drew ?_ | refine bel_drewN ?_ _ | refine bel_alloc ?_ _ | refine bel_set ?_ (by first | (dsimp only; omega) | (simp; done) | (simp; omega)) _ | refine bel_trans ?_ (by assumption)))⟩
        · have d2 : decide (x - y < m) = false := decide_eq_false h2
          have HP2 : IdxRel w l x n (.int .i64 (k + 1 : Nat)) wr := ⟨k + 1, by omega, rfl, fun j hj hjl => by
            by_cases e : j = k
            · subst e; rw [hs hjl]; unfold PS.has; simp only [d1, d2, Bool.and_false]
            · exact HP.out j (by omega) hjl, hbel⟩
          replace HP2 := Lib.hid HP2
          clear hs
          go_wp2_with fail
          go_quiet (fail)
          go_wp2_with fail
          go_roundw
          case rel =>
            obtain ⟨k', a1, a2, a3, a4⟩ := HP2.out
            exact ⟨k', a1, by rw [← a2]; go_num, a3, (by repeat (first | exact Below.refl _ _ | assumption | refine bel_drew ?_ | refine bel_drewN ?_ _ | refine bel_alloc ?_ _ | refine bel_set ?_ (by first | (dsimp only; omega) | (simp; done) | (simp; omega)) _ | refine bel_trans ?_ (by assumption)))⟩
          case measure => simp [intOf]; omega
      · have d1 : decide (y ≤ x) = false := decide_eq_false h1
        have HP2 : IdxRel w l x n (.int .i64 (k + 1 : Nat)) wr := ⟨k + 1, by omega, rfl, fun j hj hjl => by
          by_cases e : j = k
          · subst e; rw [hs hjl]; unfold PS.has; simp only [d1, Bool.false_and]
          · exact HP.out j (by omega) hjl, hbel⟩
        replace HP2 := Lib.hid HP2
        clear hs
        go_wp2_with fail
        go_quiet (fail)
        go_wp2_with fail
        go_roundw
        case rel =>
          obtain ⟨k', a1, a2, a3, a4⟩ := HP2.out
          exact ⟨k', a1, by rw [← a2]; go_num, a3, (by repeat (first | exact Below.refl _ _ | assumption | refine bel_drew ?_ | refine bel_drewN ?_ _ | refine bel_alloc ?_ _ | refine bel_set ?_ (by first | (dsimp only; omega) | (simp; done) | (simp; omega)) _ | refine bel_trans ?_ (by assumption)))⟩
        case measure => simp [intOf]; omega
    · have HK : R = -1 := by
        rw [← hR.out]
        exact PS.idx_none (fun j hj => hpre j (by have := HL.out; omega) hj)
      replace HK := Lib.hid HK
      clear hpre
      go_wp2_with fail
      refine K.out.mono ?_
      rintro e w5 ⟨rfl, h5⟩
      go_wp2_with fail
      go_ret
      exact ⟨ret_int HK.out.symm, (by repeat (first | exact Below.refl _ _ | assumption | refine bel_drew ?_ | refine bel_drewN ?_ _ | refine bel_alloc ?_ _ | refine bel_set ?_ (by first | (dsimp only; omega) | (simp; done) | (simp; omega)) _ | refine bel_trans ?_ (by assumption)))⟩

theorem ref08_Find {A : Option Addr} {n : Nat} {l : List PS.Sp} (c : Nat) (x : Int) {w : World} (h : SpansAt w A n l) (hx : x ≤ 9223372036854775807) :
    Calls Try.prog 23 #[.slice A n c, .int .i64 x] w fun e w' => e = .returned (.int .i64 (PS.find l x)) ∧ Below w.heap.size w w' := by
  unfold PS.find
  rcases hr : PS.right l with _ | _
  · rw [if_neg (by simp)]
    exact ref08_Find_no c x h hr
  · rw [if_pos rfl]
    by_cases h0 : 0 < n
    · obtain ⟨b, off, rfl, -, -⟩ := h.2.2.2 h0
      exact ref08_Find_some b off n c l x w h hr hx
    · obtain rfl : n = 0 := by omega
      obtain rfl := List.eq_nil_of_length_eq_zero h.1
      exact ref08_Find_0 A c x w
end Go.Proofs.Ytfgfnfjeopjbgaa
