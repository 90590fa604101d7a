/-
  Slices of ints that read as lists; the contract of SameInts.
-/
import Derived.Test.YtdhcmnbajkpjiaaBase3
import Derived.Test.YtdhcmnbajkpjiaaProg
import Derived.BigQuiet
import Derived.Deep.QuietTactic
import Derived.Outline
namespace Go.Proofs.Ytdhcmnbajkpjiaa
open Go.RowKit
set_option linter.unusedVariables false
attribute [local go_sem] drewN_alloc drewN_setCell

/-- The slice value of length n at A reads as xs. -/
def IntsAt (w : World) (A : Option Addr) (n : Nat) (xs : List Int) : Prop :=
  xs.length = n ∧ n ≤ 9223372036854775807 ∧ (0 < n → ∃ b off, A = some ⟨b, off, none⟩ ∧ b < w.heap.size ∧ ∀ i, i < n → w.cell? ⟨b, off + i, none⟩ = some (.int .i64 (xs.getD i 0)))

theorem IntsAt.keep {w w' : World} {A : Option Addr} {n : Nat} {xs : List Int} (h : IntsAt w A n xs) (k : Below w.heap.size w w') : IntsAt w' A n xs :=
  ⟨h.1, h.2.1, fun hn => by
    obtain ⟨b, off, e, hb, hc⟩ := h.2.2 hn
    exact ⟨b, off, e, Nat.lt_of_lt_of_le hb k.size, fun i hi => (k.cell hb).trans (hc i hi)⟩⟩
theorem IntsAt.nil {w : World} {A : Option Addr} : IntsAt w A 0 [] := ⟨rfl, by omega, fun h => absurd h (by omega)⟩

/-- What holds at the head of SameInts' loop. -/
def SameRel (w : World) (n : Nat) (xs ys : List Int) (i : Value) (wr : World) : Prop :=
  ∃ k : Nat, k ≤ n ∧ i = .int .i64 k ∧ (∀ j, j < k → xs.getD j 0 = ys.getD j 0) ∧ Below w.heap.size w wr

theorem list_eq_getD {n : Nat} {xs ys : List Int} (hx : xs.length = n) (hy : ys.length = n) (h : ∀ j, j < n → xs.getD j 0 = ys.getD j 0) : xs = ys := by
  apply List.ext_getElem (by omega)
  intro i h1 h2
  have := h i (by omega)
  simpa [List.getD, h1, h2] using this

theorem base_SameInts_len (A B : Option Addr) (n m c d : Nat) (w : World) (hne : ((n : Int) != (m : Int)) = true) :
    Calls Try.prog 45 #[.slice A n c, .slice B m d] w fun e w' => e = .returned (.bool false) ∧ Below w.heap.size w w' := by
  go_enter Try.func45, Try.ntmps45
  go_wp2
  go_ret
  exact ⟨rfl, (by repeat (first | exact Below.refl _ _ | assumption | refine bel_drew ?_ | refine bel_drewN ?_ _ | refine bel_alloc ?_ _ | refine bel_set ?_ (by first | (dsimp only; omega) | (simp; done) | (simp; omega)) _ | refine bel_trans ?_ (by assumption)))⟩

theorem base_SameInts_nil (A B : Option Addr) (c d : Nat) (w : World) :
    Calls Try.prog 45 #[.slice A 0 c, .slice B 0 d] w fun e w' => e = .returned (.bool true) ∧ Below w.heap.size w w' := by
  go_enter Try.func45, Try.ntmps45
  go_wp2
  refine wp_loop_rounds 1 ?_
  rw [rounds_succ]
  go_wp2
  go_ret
  exact ⟨rfl, (by repeat (first | exact Below.refl _ _ | assumption | refine bel_drew ?_ | refine bel_drewN ?_ _ | refine bel_alloc ?_ _ | refine bel_set ?_ (by first | (dsimp only; omega) | (simp; done) | (simp; omega)) _ | refine bel_trans ?_ (by assumption)))⟩

set_option maxHeartbeats 1000000 in
theorem base_SameInts_some (b off b' off' n c d : Nat) (xs ys : List Int) (w : World) (hn : n ≤ 9223372036854775807) (hx : xs.length = n) (hy : ys.length = n) (hb : b < w.heap.size) (hb' : b' < w.heap.size)
    (hc : ∀ i, i < n → w.cell? ⟨b, off + i, none⟩ = some (.int .i64 (xs.getD i 0))) (hc' : ∀ i, i < n → w.cell? ⟨b', off' + i, none⟩ = some (.int .i64 (ys.getD i 0))) :
    Calls Try.prog 45 #[.slice (some ⟨b, off, none⟩) n c, .slice (some ⟨b', off', none⟩) n d] w fun e w' => e = .returned (.bool (decide (xs = ys))) ∧ Below w.heap.size w w' := by
  have HC := Lib.hid hc
  have HC' := Lib.hid hc'
  have HX := Lib.hid hx
  have HY := Lib.hid hy
  clear hc hc' hx hy
  go_enter Try.func45, Try.ntmps45
  go_wp2
  go_loopw [5] (fun i wr => SameRel w n xs ys i wr) (fun i _ => n - (intOf i).toNat)
  case atStart => exact ⟨0, Nat.zero_le _, rfl, fun j hj => absurd hj (by omega), Below.refl _ _⟩
  case round =>
    obtain ⟨k, hk, rfl, hpre, hbel⟩ := hrel
    have HP := Lib.hid hpre
    clear hpre
    by_cases hlt : (k : Int) < n
    · have x0 := (hbel.cell (p := ⟨b, off + k, none⟩) hb).trans (HC.out k (by omega))
      have y0 := (hbel.cell (p := ⟨b', off' + k, none⟩) hb').trans (HC'.out k (by omega))
      obtain ⟨x, hx⟩ : ∃ x, xs.getD k 0 = x := ⟨_, rfl⟩
      obtain ⟨y, hy⟩ : ∃ y, ys.getD k 0 = y := ⟨_, rfl⟩
      rw [hx] at x0
      rw [hy] at y0
      have HX1 := Lib.hid hx
      have HY1 := Lib.hid hy
      clear hx hy
      have j1 : (0 : Int) ≤ (k : Int) := by omega
      by_cases hxy : x = y
      · have hbq : (x != y) = false := by simpa using hxy
        have HXY := Lib.hid hxy
        clear hxy
        go_wp2_with fail
        go_quiet (fail)
        go_wp2_with fail
        go_roundw
        case rel =>
          refine ⟨k + 1, by omega, by go_num, fun j hj => ?_, (by repeat (first | exact Below.refl _ _ | assumption | refine bel_drew ?_ | refine bel_drewN ?_ _ | refine bel_alloc ?_ _ | refine bel_set ?_ (by first | (dsimp only; omega) | (simp; done) | (simp; omega)) _ | refine bel_trans ?_ (by assumption)))⟩
          by_cases hjk : j = k
          · rw [hjk, HX1.out, HY1.out, HXY.out]
          · exact HP.out j (by omega)
        case measure => simp [intOf]; omega
      · have hbq : (x != y) = true := by simpa using hxy
        have hne : xs ≠ ys := by
          intro h
          apply hxy
          rw [← HX1.out, ← HY1.out, h]
        have HNE := Lib.hid hne
        clear hxy hne
        go_wp2_with fail
        go_quiet (fail)
        go_wp2_with fail
        go_ret
        exact ⟨ret_bool (by simp [HNE.out]), (by repeat (first | exact Below.refl _ _ | assumption | refine bel_drew ?_ | refine bel_drewN ?_ _ | refine bel_alloc ?_ _ | refine bel_set ?_ (by first | (dsimp only; omega) | (simp; done) | (simp; omega)) _ | refine bel_trans ?_ (by assumption)))⟩
    · have hkn : k = n := by omega
      have heq : xs = ys := list_eq_getD HX.out HY.out (fun j hj => HP.out j (by omega))
      have HE := Lib.hid heq
      clear hkn heq
      go_wp2_with fail
      go_ret
      exact ⟨ret_bool (by simp [HE.out]), (by repeat (first | exact Below.refl _ _ | assumption | refine bel_drew ?_ | refine bel_drewN ?_ _ | refine bel_alloc ?_ _ | refine bel_set ?_ (by first | (dsimp only; omega) | (simp; done) | (simp; omega)) _ | refine bel_trans ?_ (by assumption)))⟩

theorem base_SameInts {A B : Option Addr} {n m : Nat} {xs ys : List Int} (c d : Nat) {w : World} (hx : IntsAt w A n xs) (hy : IntsAt w B m ys) :
    Calls Try.prog 45 #[.slice A n c, .slice B m d] w fun e w' => e = .returned (.bool (decide (xs = ys))) ∧ Below w.heap.size w w' := by
  by_cases hnm : n = m
  · subst hnm
    by_cases h0 : n = 0
    · subst h0
      have e1 : xs = [] := List.eq_nil_of_length_eq_zero hx.1
      have e2 : ys = [] := List.eq_nil_of_length_eq_zero hy.1
      subst e1 e2
      exact base_SameInts_nil A B c d w
    · obtain ⟨b, off, rfl, hb, hc⟩ := hx.2.2 (by omega)
      obtain ⟨b', off', rfl, hb', hc'⟩ := hy.2.2 (by omega)
      exact base_SameInts_some b off b' off' n c d xs ys w hx.2.1 hx.1 hy.1 hb hb' hc hc'
  · have hne : xs ≠ ys := by rintro rfl; exact hnm (hx.1.symm.trans hy.1)
    rw [show decide (xs = ys) = false by simpa using hne]
    exact base_SameInts_len A B n m c d w (by simp; omega)
end Go.Proofs.Ytdhcmnbajkpjiaa
