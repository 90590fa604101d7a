/-
  bank.Which.
-/
import Derived.Test.YthmjbfocpdiikaaMemL
import Derived.Lib.SliceRun
namespace Go.Proofs.Ythmjbfocpdiikaa
open Go.RowKit
set_option linter.unusedVariables false
set_option linter.unusedSimpArgs false
attribute [local go_sem] drewN_alloc drewN_setCell

theorem which_pred {A : Option Addr} {n : Nat} {l : List PO.Mem} (c p : Nat) (f w x i : Int) {X : World} (h : MemAt X A n l) (hn : n ≤ 1000) (bf : -9223372036854775808 ≤ f ∧ f ≤ 9223372036854775807) (bw : -9223372036854775808 ≤ w ∧ w ≤ 9223372036854775807) (bi : -9223372036854775808 ≤ i ∧ i ≤ 9223372036854775807) (bx : -9223372036854775808 ≤ x ∧ x ≤ 9223372036854775807)
    (c0 : X.cell? ⟨p, 0, none⟩ = some (.int .i64 f)) (c1 : X.cell? ⟨p + 1, 0, none⟩ = some (.int .i64 w)) (c2 : X.cell? ⟨p + 1 + 1, 0, none⟩ = some (.slice A n c)) (c3 : X.cell? ⟨p + 1 + 1 + 1, 0, none⟩ = some (.int .i64 x)) :
    Calls Try.prog 61 #[.int .i64 i, .pointer (some ⟨p, 0, none⟩), .pointer (some ⟨p + 1, 0, none⟩), .pointer (some ⟨p + 1 + 1, 0, none⟩), .pointer (some ⟨p + 1 + 1 + 1, 0, none⟩)] X fun e W' => e = .returned (.bool (!(PO.bmay f w l i x))) ∧ Below X.heap.size X W' := by
  have K := Lib.hid (bank_May c f w i x h hn bf bw bi bx)
  generalize PO.bmay f w l i x = r at *
  clear h
  go_enter Try.func61, Try.ntmps61
  go_wp2_with fail
  refine K.out.mono ?_
  rintro e w1 ⟨rfl, h1⟩
  go_wp2_with fail
  exact bodyPost_ret (v := .bool (!r)) (by simp [results, Try.results61, go_sem]) rfl ⟨rfl, (by repeat (first | exact Below.refl _ _ | assumption | refine bel_drew ?_ | refine bel_drewN ?_ _ | refine bel_alloc ?_ _ | refine bel_set ?_ (by first | (dsimp only; omega) | (simp; done) | (simp; omega)) _ | refine bel_trans ?_ (by assumption)))⟩

def FirstRel (w : World) (p : Int → Bool) (xs : List Int) (n : Nat) (i : Value) (wr : World) : Prop :=
  ∃ k : Nat, k ≤ n ∧ i = .int .i64 k ∧ (∀ j, j < k → p (xs.getD j 0) = false) ∧ Below w.heap.size w wr
set_option maxHeartbeats 4000000 in
theorem ints_IndexFunc {A : Option Addr} {n : Nat} {xs : List Int} (c g : Nat) (lb : Array Value) (p : Int → Bool) {w : World} (h : IntsAt w A n xs)
    (eg : ∀ args w, (callFunc g args).run Try.prog w = .ok (.enter g args) w)
    (hp : ∀ j, j < n → ∀ W, Below w.heap.size w W → Calls Try.prog g (#[.int .i64 (xs.getD j 0)] ++ lb) W fun e w' => e = .returned (.bool (p (xs.getD j 0))) ∧ Below W.heap.size W w') :
    Calls Try.prog 79 #[.slice A n c, .func (.func g) #[] lb] w fun e w' => ∃ r : Int, e = .returned (.int .i64 r) ∧ Below w.heap.size w w' ∧ ((r = -1 ∧ ∀ j, j < n → p (xs.getD j 0) = false) ∨ ∃ k : Nat, k < n ∧ r = k ∧ p (xs.getD k 0) = true ∧ ∀ j, j < k → p (xs.getD j 0) = false) := by
  have HX := Lib.hid h.1
  have HN := h.2.1
  have HC := Lib.hid h.2.2
  have HP := Lib.hid hp
  have hcf : ∀ m w, (callFunc g (#[m] ++ lb)).run Try.prog w = .ok (.enter g (#[m] ++ lb)) w := fun m w => eg _ w
  clear h hp
  go_enter Try.func79, Try.ntmps79
  go_wp2_with fail
  go_loopw [8] (fun i wr => FirstRel w p xs n i wr) (fun i _ => n - (intOf i).toNat)
  case atStart => exact ⟨0, Nat.zero_le _, rfl, fun j hj => absurd hj (by omega), Below.refl _ _⟩
  case round =>
    obtain ⟨k, hk, rfl, hnot, hbel⟩ := hrel
    have HNOT := Lib.hid hnot
    clear hnot
    have j1 : (0 : Int) ≤ (k : Int) := by omega
    by_cases hlt : (k : Int) < n
    · obtain ⟨b, off, rfl, hb, hcs⟩ := HC.out (by omega)
      have x0 := (hbel.cell (p := ⟨b, off + k, none⟩) hb).trans (hcs k (by omega))
      have KP := HP.out k (by omega) wr hbel
      obtain ⟨y, hy⟩ : ∃ y, xs.getD k 0 = y := ⟨_, rfl⟩
      rw [hy] at x0 KP
      have HY := Lib.hid hy
      clear hy hcs
      rcases hq : p y with _ | _
      · rw [hq] at KP
        have HE : Hid (∀ j, j < k + 1 → p (xs.getD j 0) = false) := Lib.hid (fun j hj => by
          rcases Nat.lt_or_ge j k with h1 | h1
          · exact HNOT.out j h1
          · obtain rfl : j = k := by omega
            rw [HY.out]; exact hq)
        replace KP := Lib.hid KP
        clear hq
        go_wp2_with fail
        refine KP.out.mono ?_
        rintro e w1 ⟨rfl, h1⟩
        go_wp2_with fail
        go_roundw
        case rel => exact ⟨k + 1, by omega, by go_num, HE.out, (by repeat (first | exact Below.refl _ _ | assumption | refine bel_drew ?_ | refine bel_drewN ?_ _ | refine bel_alloc ?_ _ | refine bel_set ?_ (by first | (dsimp only; omega) | (simp; done) | (simp; omega)) _ | refine bel_trans ?_ (by assumption)))⟩
        case measure => simp [intOf]; omega
      · rw [hq] at KP
        have HE : Hid (p (xs.getD k 0) = true) := Lib.hid (by rw [HY.out]; exact hq)
        replace KP := Lib.hid KP
        clear hq
        go_wp2_with fail
        refine KP.out.mono ?_
        rintro e w1 ⟨rfl, h1⟩
        go_wp2_with fail
        go_ret
        exact ⟨_, rfl, (by repeat (first | exact Below.refl _ _ | assumption | refine bel_drew ?_ | refine bel_drewN ?_ _ | refine bel_alloc ?_ _ | refine bel_set ?_ (by first | (dsimp only; omega) | (simp; done) | (simp; omega)) _ | refine bel_trans ?_ (by assumption))), .inr ⟨k, by omega, rfl, HE.out, HNOT.out⟩⟩
    · go_wp2_with fail
      go_ret
      exact ⟨_, rfl, (by repeat (first | exact Below.refl _ _ | assumption | refine bel_drew ?_ | refine bel_drewN ?_ _ | refine bel_alloc ?_ _ | refine bel_set ?_ (by first | (dsimp only; omega) | (simp; done) | (simp; omega)) _ | refine bel_trans ?_ (by assumption))), .inl ⟨rfl, fun j hj => HNOT.out j (by omega)⟩⟩
end Go.Proofs.Ythmjbfocpdiikaa
