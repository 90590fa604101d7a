/-
  bank.both, Safe, Admit, and the reference's Safe.
-/
import Derived.Test.YthmjbfocpdiikaaMemE
import Derived.Test.YthmjbfocpdiikaaPlainBank
namespace Go.Proofs.Ythmjbfocpdiikaa
open Go.RowKit
set_option linter.unusedVariables false
set_option linter.unusedSimpArgs false
attribute [local go_sem] drewN_alloc drewN_setCell

theorem bank_both (f w : Int) (W : World) (bf : -9223372036854775808 ≤ f ∧ f ≤ 9223372036854775807) (bw : -9223372036854775808 ≤ w ∧ w ≤ 9223372036854775807) :
    Calls Try.prog 58 #[.int .i64 f, .int .i64 w] W fun e W' => e = .returned (.tuple #[.int .i64 (if PO.bad f w = true then 0 else f + w), .bool (!(PO.bad f w))]) ∧ W = W' := by
  by_cases h0 : f < 0
  · have e : PO.bad f w = true := by simp [PO.bad, h0]
    rw [e]
    go_enter Try.func58, Try.ntmps58
    go_wp2_with fail
    exact bodyPost_ret (v := .tuple #[.int .i64 0, .bool false]) (by simp [results, Try.results58, go_sem]) rfl ⟨rfl, rfl⟩
  · by_cases h1 : w < 0
    · have e : PO.bad f w = true := by simp [PO.bad, h1]
      rw [e]
      go_enter Try.func58, Try.ntmps58
      go_wp2_with fail
      exact bodyPost_ret (v := .tuple #[.int .i64 0, .bool false]) (by simp [results, Try.results58, go_sem]) rfl ⟨rfl, rfl⟩
    · by_cases h2 : 1048576 < f
      · have e : PO.bad f w = true := by simp [PO.bad, h2]
        rw [e]
        go_enter Try.func58, Try.ntmps58
        go_wp2_with fail
        exact bodyPost_ret (v := .tuple #[.int .i64 0, .bool false]) (by simp [results, Try.results58, go_sem]) rfl ⟨rfl, rfl⟩
      · by_cases h3 : 1048576 - f < w
        · have e : PO.bad f w = true := by simp [PO.bad, h3]
          rw [e]
          go_enter Try.func58, Try.ntmps58
          go_wp2_with fail
          exact bodyPost_ret (v := .tuple #[.int .i64 0, .bool false]) (by simp [results, Try.results58, go_sem]) rfl ⟨rfl, rfl⟩
        · have e : PO.bad f w = false := by rw [PO.bad_iff]; omega
          rw [e]
          go_enter Try.func58, Try.ntmps58
          go_wp2_with fail
          exact bodyPost_ret (v := .tuple #[.int .i64 (f + w), .bool true]) (by simp [results, Try.results58, go_sem]) rfl ⟨rfl, rfl⟩

theorem bank_Safe {A : Option Addr} {n : Nat} {l : List PO.Mem} (c : Nat) (f w : Int) {W : World} (h : MemAt W A n l) (hn : n ≤ 1000) (bf : -9223372036854775808 ≤ f ∧ f ≤ 9223372036854775807) (bw : -9223372036854775808 ≤ w ∧ w ≤ 9223372036854775807) :
    Calls Try.prog 17 #[.int .i64 f, .int .i64 w, .slice A n c] W fun e W' => e = .returned (.bool (PO.bsafe f w l)) ∧ Below W.heap.size W W' := by
  have K1 := bank_both f w W bf bw
  have K2 : PO.bad f w = false → ∀ X, Below W.heap.size W X → Calls Try.prog 42 #[.int .i64 (f + w), .slice A n c] X fun e W' => e = .returned (.bool (PO.safe (f + w) l)) ∧ Below X.heap.size X W' := fun _ X hX => order_Safe c (f + w) (h.keep hX) hn
  have e : PO.bsafe f w l = (if PO.bad f w = true then false else PO.safe (f + w) l) := rfl
  generalize PO.bsafe f w l = R at *
  generalize PO.safe (f + w) l = S at *
  clear h
  cases hb : PO.bad f w
  · rw [hb] at K1 e K2
    rw [if_neg (by simp)] at e K1
    subst e
    replace K1 := Lib.hid K1
    have K3 := Lib.hid (K2 rfl)
    clear K2 hb
    generalize f + w = fw at *
    go_enter Try.func17, Try.ntmps17
    go_wp2_with fail
    refine K1.out.mono ?_
    rintro e w1 ⟨rfl, rfl⟩
    go_wp2_with fail
    refine (K3.out _ (by exact (by repeat (first | exact Below.refl _ _ | assumption | refine bel_drew ?_ | refine bel_drewN ?_ _ | refine bel_alloc ?_ _ | refine bel_set ?_ (by first | (dsimp only; omega) | (simp; done) | (simp; omega)) _ | refine bel_trans ?_ (by assumption))))).mono ?_
    rintro e w2 ⟨rfl, h2⟩
    go_wp2_with fail
    exact bodyPost_ret (v := .bool R) (by simp [results, Try.results17, go_sem]) rfl ⟨rfl, (by repeat (first | exact Below.refl _ _ | assumption | refine bel_drew ?_ | refine bel_drewN ?_ _ | refine bel_alloc ?_ _ | refine bel_set ?_ (by first | (dsimp only; omega) | (simp; done) | (simp; omega)) _ | refine bel_trans ?_ (by assumption)))⟩
  · rw [hb] at K1 e
    rw [if_pos rfl] at e K1
    subst e
    replace K1 := Lib.hid K1
    clear K2 hb
    go_enter Try.func17, Try.ntmps17
    go_wp2_with fail
    refine K1.out.mono ?_
    rintro e w1 ⟨rfl, rfl⟩
    go_wp2_with fail
    exact bodyPost_ret (v := .bool false) (by simp [results, Try.results17, go_sem]) rfl ⟨rfl, (by repeat (first | exact Below.refl _ _ | assumption | refine bel_drew ?_ | refine bel_drewN ?_ _ | refine bel_alloc ?_ _ | refine bel_set ?_ (by first | (dsimp only; omega) | (simp; done) | (simp; omega)) _ | refine bel_trans ?_ (by assumption)))⟩

theorem bank_Admit (k x : Int) (W : World) :
    Calls Try.prog 19 #[.int .i64 k, .int .i64 x] W fun e W' => e = .returned (.bool (decide (1 ≤ x) && decide (x ≤ k) && decide (k ≤ 1048576))) ∧ W = W' := by
  by_cases h0 : 1 ≤ x
  · have g0 : decide ((1 : Int) ≤ x) = true := decide_eq_true h0
    by_cases h1 : x ≤ k
    · have g1 : decide (x ≤ k) = true := decide_eq_true h1
      rw [g0, g1, Bool.true_and, Bool.true_and]
      go_enter Try.func19, Try.ntmps19
      go_wp2_with fail
      exact bodyPost_ret (v := .bool (decide (k ≤ 1048576))) (by simp [results, Try.results19, go_sem]) rfl ⟨rfl, rfl⟩
    · have g1 : decide (x ≤ k) = false := decide_eq_false h1
      rw [g0, g1, Bool.and_false, Bool.false_and]
      go_enter Try.func19, Try.ntmps19
      go_wp2_with fail
      exact bodyPost_ret (v := .bool false) (by simp [results, Try.results19, go_sem]) rfl ⟨rfl, rfl⟩
  · have g0 : decide ((1 : Int) ≤ x) = false := decide_eq_false h0
    rw [g0, Bool.false_and, Bool.false_and]
    go_enter Try.func19, Try.ntmps19
    go_wp2_with fail
    exact bodyPost_ret (v := .bool false) (by simp [results, Try.results19, go_sem]) rfl ⟨rfl, rfl⟩

theorem ref29_Safe {A : Option Addr} {n : Nat} {l : List PO.Mem} (c : Nat) (f w : Int) {W : World} (h : MemAt W A n l) (hn : n ≤ 1000) (bf : -9223372036854775808 ≤ f ∧ f ≤ 9223372036854775807) (bw : -9223372036854775808 ≤ w ∧ w ≤ 9223372036854775807) :
    Calls Try.prog 18 #[.int .i64 f, .int .i64 w, .slice A n c] W fun e W' => e = .returned (.bool (PO.bsafe f w l)) ∧ Below W.heap.size W W' := by
  have K2 : ∀ X, Below W.heap.size W X → Calls Try.prog 37 #[.int .i64 (f + w), .slice A n c] X fun e w' => ∃ v, e = .returned (.tuple #[v, .bool (PO.safe (f + w) l)]) ∧ OwnI X.heap.size w' v (PO.ints (PO.order (f + w) l).1) ∧ Below X.heap.size X w' := fun X hX => ref28_Order c (f + w) (h.keep hX) hn
  have e : PO.bsafe f w l = (if PO.bad f w = true then false else PO.safe (f + w) l) := rfl
  generalize PO.bsafe f w l = R at *
  generalize PO.safe (f + w) l = S at *
  generalize (PO.order (f + w) l).1 = d at *
  replace K2 := Lib.hid K2
  clear h
  by_cases h0 : f < 0
  · rw [if_pos (show PO.bad f w = true by simp [PO.bad, h0])] at e
    subst e
    go_enter Try.func18, Try.ntmps18
    go_wp2_with fail
    exact bodyPost_ret (v := .bool false) (by simp [results, Try.results18, go_sem]) rfl ⟨rfl, (by repeat (first | exact Below.refl _ _ | assumption | refine bel_drew ?_ | refine bel_drewN ?_ _ | refine bel_alloc ?_ _ | refine bel_set ?_ (by first | (dsimp only; omega) | (simp; done) | (simp; omega)) _ | refine bel_trans ?_ (by assumption)))⟩
  · by_cases h1 : w < 0
    · rw [if_pos (show PO.bad f w = true by simp [PO.bad, h1])] at e
      subst e
      go_enter Try.func18, Try.ntmps18
      go_wp2_with fail
      exact bodyPost_ret (v := .bool false) (by simp [results, Try.results18, go_sem]) rfl ⟨rfl, (by repeat (first | exact Below.refl _ _ | assumption | refine bel_drew ?_ | refine bel_drewN ?_ _ | refine bel_alloc ?_ _ | refine bel_set ?_ (by first | (dsimp only; omega) | (simp; done) | (simp; omega)) _ | refine bel_trans ?_ (by assumption)))⟩
    · by_cases h2 : 1048576 < f
      · rw [if_pos (show PO.bad f w = true by simp [PO.bad, h2])] at e
        subst e
        go_enter Try.func18, Try.ntmps18
        go_wp2_with fail
        exact bodyPost_ret (v := .bool false) (by simp [results, Try.results18, go_sem]) rfl ⟨rfl, (by repeat (first | exact Below.refl _ _ | assumption | refine bel_drew ?_ | refine bel_drewN ?_ _ | refine bel_alloc ?_ _ | refine bel_set ?_ (by first | (dsimp only; omega) | (simp; done) | (simp; omega)) _ | refine bel_trans ?_ (by assumption)))⟩
      · by_cases h3 : 1048576 - f < w
        · rw [if_pos (show PO.bad f w = true by simp [PO.bad, h3])] at e
          subst e
          go_enter Try.func18, Try.ntmps18
          go_wp2_with fail
          exact bodyPost_ret (v := .bool false) (by simp [results, Try.results18, go_sem]) rfl ⟨rfl, (by repeat (first | exact Below.refl _ _ | assumption | refine bel_drew ?_ | refine bel_drewN ?_ _ | refine bel_alloc ?_ _ | refine bel_set ?_ (by first | (dsimp only; omega) | (simp; done) | (simp; omega)) _ | refine bel_trans ?_ (by assumption)))⟩
        · rw [if_neg (by rw [show PO.bad f w = false by rw [PO.bad_iff]; omega]; simp)] at e
          subst e
          go_enter Try.func18, Try.ntmps18
          go_wp2_with fail
          refine (K2.out _ (by exact (by repeat (first | exact Below.refl _ _ | assumption | refine bel_drew ?_ | refine bel_drewN ?_ _ | refine bel_alloc ?_ _ | refine bel_set ?_ (by first | (dsimp only; omega) | (simp; done) | (simp; omega)) _ | refine bel_trans ?_ (by assumption))))).mono ?_
          rintro e w2 ⟨v, rfl, ho, hb2⟩
          obtain ⟨A1, c1, rfl, _⟩ := ho.slice
          clear ho
          go_wp2_with fail
          exact bodyPost_ret (v := .bool R) (by simp [results, Try.results18, go_sem]) rfl ⟨rfl, (by repeat (first | exact Below.refl _ _ | assumption | refine bel_drew ?_ | refine bel_drewN ?_ _ | refine bel_alloc ?_ _ | refine bel_set ?_ (by first | (dsimp only; omega) | (simp; done) | (simp; omega)) _ | refine bel_trans ?_ (by assumption)))⟩
end Go.Proofs.Ythmjbfocpdiikaa
