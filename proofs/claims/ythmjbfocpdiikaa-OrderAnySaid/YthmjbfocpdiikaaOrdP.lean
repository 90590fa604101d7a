/-
  Layer 28 (order): the walk of OrderTells.
-/
import Derived.Test.YthmjbfocpdiikaaOrdO
namespace Go.Proofs.Ythmjbfocpdiikaa
open Go.RowKit
set_option linter.unusedVariables false
set_option linter.unusedSimpArgs false
attribute [local go_sem] drewN_alloc drewN_setCell

theorem same_own {v1 v2 : Value} {xs : List Int} {B1 B2 : Nat} {w1 w2 : World} (h1 : OwnI B1 w1 v1 xs) (h2 : OwnI B2 w2 v2 xs) (hW : Below w1.heap.size w1 w2) :
    ∃ A1 n1 c1 A2 c2, v1 = .slice A1 n1 c1 ∧ v2 = .slice A2 n1 c2 ∧ Calls Try.prog 27 #[.slice A1 n1 c1, .slice A2 n1 c2] w2 fun e w' => e = .returned (.bool true) ∧ Below w2.heap.size w2 w' := by
  obtain ⟨A1, c1, rfl, i1, _⟩ := h1.ints
  obtain ⟨A2, c2, rfl, i2, _⟩ := h2.ints
  refine ⟨_, _, _, _, _, rfl, rfl, ?_⟩
  have K := base_SameInts c1 c2 (i1.keep hW) i2
  rwa [decide_eq_true (rfl : xs = xs)] at K
set_option maxRecDepth 100000 in
set_option maxHeartbeats 8000000 in
theorem law28_OrderTells {A MA : Option Addr} {n mn : Nat} {l : List PO.Mem} {xs : List Int} (c mc : Nat) (f : Int) (w : World) (h : MemAt w A n l) (hx : IntsAt w MA mn xs) (hle : mn ≤ mc) (hmc : mc ≤ 9223372036854775807) :
    Calls Try.prog 13 #[.int .i64 f, .slice A n c, .slice MA mn mc] w fun e w' => e = .returned (.bool true) ∧ Below w.heap.size w w' := by
  by_cases hn : 20 < n
  · have g1 : decide ((20 : Int) < (n : Int)) = true := decide_eq_true (by omega)
    have g1' : (20 : Int) < (n : Int) := by omega
    clear h hx
    go_enter Try.func13, Try.ntmps13
    go_wp2_with fail
    refine (law28_works _).mono ?_
    rintro e w9 ⟨rfl, d9⟩
    go_wp2_with fail
    exact bodyPost_ret (v := .bool true) (by simp [results, Try.results13, go_sem]) rfl ⟨rfl, by exact (by repeat (first | exact Below.refl _ _ | assumption | refine bel_drew ?_ | refine bel_drewN ?_ _ | refine bel_trans ?_ (by assumption)))⟩
  · have g1 : decide ((20 : Int) < (n : Int)) = false := decide_eq_false (by omega)
    have g1' : ¬ (20 : Int) < (n : Int) := by omega
    by_cases hm : 30 < mn
    · have g2 : decide ((30 : Int) < (mn : Int)) = true := decide_eq_true (by omega)
      have g2' : (30 : Int) < (mn : Int) := by omega
      clear h hx
      go_enter Try.func13, Try.ntmps13
      go_wp2_with fail
      refine (law28_works _).mono ?_
      rintro e w9 ⟨rfl, d9⟩
      go_wp2_with fail
      exact bodyPost_ret (v := .bool true) (by simp [results, Try.results13, go_sem]) rfl ⟨rfl, by exact (by repeat (first | exact Below.refl _ _ | assumption | refine bel_drew ?_ | refine bel_drewN ?_ _ | refine bel_trans ?_ (by assumption)))⟩
    · have g2 : decide ((30 : Int) < (mn : Int)) = false := decide_eq_false (by omega)
      have g2' : ¬ (30 : Int) < (mn : Int) := by omega
      have K1 : Hid (Calls Try.prog 45 #[.int .i64 f, .slice A n c] w fun e w' => ∃ v, e = .returned (.tuple #[v, .bool (PO.safe f l)]) ∧ OwnI w.heap.size w' v (PO.ints (PO.order f l).1) ∧ Below w.heap.size w w') := Lib.hid (order_Order c f h (by omega))
      have K2 : Hid (∀ W, Below w.heap.size w W → Calls Try.prog 37 #[.int .i64 f, .slice A n c] W fun e w' => ∃ v, e = .returned (.tuple #[v, .bool (PO.safe f l)]) ∧ OwnI W.heap.size w' v (PO.ints (PO.order f l).1) ∧ Below W.heap.size W w') := Lib.hid (fun W hW => ref28_Order c f (h.keep hW) (by omega))
      have K3 : Hid (∀ W, Below w.heap.size w W → Calls Try.prog 42 #[.int .i64 f, .slice A n c] W fun e w' => e = .returned (.bool (PO.safe f l)) ∧ Below W.heap.size W w') := Lib.hid (fun W hW => order_Safe c f (h.keep hW) (by omega))
      have K4 : Hid (∀ W, Below w.heap.size w W → Calls Try.prog 46 #[.slice MA mn mc, .int .i64 f, .slice A n c] W fun e w' => e = .returned (.bool (PO.isRight xs f l)) ∧ Below W.heap.size W w') := Lib.hid (fun W hW => order_Right mc c f (hx.keep hW) (h.keep hW) (by omega))
      have K5 : Hid (∀ W, Below w.heap.size w W → Calls Try.prog 47 #[.slice MA mn mc, .int .i64 f, .slice A n c] W fun e w' => e = .returned (.bool (PO.isRight xs f l)) ∧ Below W.heap.size W w') := Lib.hid (fun W hW => ref28_Right mc c f (hx.keep hW) (h.keep hW) (by omega) hle hmc)
      have K6 : Hid (∀ W, Below w.heap.size w W → Calls Try.prog 48 #[.int .i64 f, .slice A n c] W fun e w' => ∃ v, e = .returned v ∧ OwnI W.heap.size w' v (PO.ints (PO.short f l)) ∧ Below W.heap.size W w') := Lib.hid (fun W hW => order_Short c f (h.keep hW) (by omega))
      have K7 : Hid (∀ W, Below w.heap.size w W → Calls Try.prog 49 #[.int .i64 f, .slice A n c] W fun e w' => ∃ v, e = .returned v ∧ OwnI W.heap.size w' v (PO.ints (PO.short f l)) ∧ Below W.heap.size W w') := Lib.hid (fun W hW => ref28_Short c f (h.keep hW) (by omega))
      have K8 : Hid (∀ W, Below w.heap.size w W → Calls Try.prog 44 #[.int .i64 f, .slice A n c] W fun e w' => ∃ R, e = .returned (.int .i64 R) ∧ PO.IsRoom f l R ∧ Below W.heap.size W w') := Lib.hid (fun W hW => order_Room c f (h.keep hW) (by omega))
      have K9 : Hid (∀ W, Below w.heap.size w W → Calls Try.prog 50 #[.int .i64 f, .slice A n c] W fun e w' => ∃ R, e = .returned (.int .i64 R) ∧ PO.IsRoom f l R ∧ Below W.heap.size W w') := Lib.hid (fun W hW => ref28_Room c f (h.keep hW) (by omega))
      generalize PO.ints (PO.order f l).1 = O at *
      generalize PO.safe f l = q at *
      generalize PO.isRight xs f l = r at *
      generalize PO.ints (PO.short f l) = D at *
      have g3 : (q == q) = true := by simp
      have g4 : (r == r) = true := by simp
      clear h hx
      go_enter Try.func13, Try.ntmps13
      go_wp2_with fail
      refine K1.out.mono ?_
      rintro e w1 ⟨v1, rfl, o1, d1⟩
      replace o1 := Lib.hid o1
      go_wp2_with fail
      refine (K2.out _ d1).mono ?_
      rintro e w2 ⟨v2, rfl, o2, d2⟩
      have t2 : Below w.heap.size w w2 := bel_trans d1 d2
      obtain ⟨A1, n1, c1, A2, c2, rfl, rfl, KS⟩ := same_own o1.out o2 d2
      replace KS := Lib.hid KS
      clear o1 o2
      go_wp2_with fail
      refine KS.out.mono ?_
      rintro e w3 ⟨rfl, d3⟩
      have t3 : Below w.heap.size w w3 := bel_trans t2 d3
      go_wp2_with fail
      refine (K3.out _ t3).mono ?_
      rintro e w4 ⟨rfl, d4⟩
      have t4 : Below w.heap.size w w4 := bel_trans t3 d4
      go_wp2_with fail
      refine (K4.out _ t4).mono ?_
      rintro e w5 ⟨rfl, d5⟩
      have t5 : Below w.heap.size w w5 := bel_trans t4 d5
      go_wp2_with fail
      refine (K5.out _ t5).mono ?_
      rintro e w6 ⟨rfl, d6⟩
      have t6 : Below w.heap.size w w6 := bel_trans t5 d6
      go_wp2_with fail
      refine (K6.out _ t6).mono ?_
      rintro e w7 ⟨v7, rfl, o7, d7⟩
      have t7 : Below w.heap.size w w7 := bel_trans t6 d7
      replace o7 := Lib.hid o7
      go_wp2_with fail
      refine (K7.out _ t7).mono ?_
      rintro e w8 ⟨v8, rfl, o8, d8⟩
      have t8 : Below w.heap.size w w8 := bel_trans t7 d8
      obtain ⟨A7, n7, c7, A8, c8, rfl, rfl, KS8⟩ := same_own o7.out o8 d8
      replace KS8 := Lib.hid KS8
      clear o7 o8
      go_wp2_with fail
      refine KS8.out.mono ?_
      rintro e w10 ⟨rfl, d10⟩
      have t10 : Below w.heap.size w w10 := bel_trans t8 d10
      go_wp2_with fail
      refine (K8.out _ t10).mono ?_
      rintro e w11 ⟨R, rfl, hR, d11⟩
      have t11 : Below w.heap.size w w11 := bel_trans t10 d11
      replace hR := Lib.hid hR
      go_wp2_with fail
      refine (K9.out _ t11).mono ?_
      rintro e w12 ⟨R2, rfl, hR2, d12⟩
      have t12 : Below w.heap.size w w12 := bel_trans t11 d12
      have hRR := hR.out.unique hR2
      clear hR hR2
      subst hRR
      have g5 : (R == R) = true := by simp
      go_wp2_with fail
      refine (law28_works _).mono ?_
      rintro e w9 ⟨rfl, d9⟩
      go_wp2_with fail
      exact bodyPost_ret (v := .bool true) (by simp [results, Try.results13, go_sem]) rfl ⟨rfl, by exact (by repeat (first | exact Below.refl _ _ | assumption | refine bel_drew ?_ | refine bel_drewN ?_ _ | refine bel_trans ?_ (by assumption)))⟩
end Go.Proofs.Ythmjbfocpdiikaa
