/-
  Chain: the contracts of what only reads.
-/
import Derived.Test.YtdhcmnbajkpjiaaChainA
namespace Go.Proofs.Ytdhcmnbajkpjiaa
open Go.RowKit
set_option linter.unusedVariables false

theorem chain_Of_yes (C Nb Lb n l : Nat) (S : CS) (x : Nat) (w : World) (h : ChainAt w C Nb Lb n l S) (hx : x < n) :
    Calls Try.prog 23 #[.pointer (some ⟨C, 0, none⟩), .int .i64 x] w fun e w' => e = .returned (.int .i64 (S.ls x)) ∧ w = w' := by
  have c1 := fun W hc => chain_is_yes C Nb n x W hc hx h.bn
  have C1 := Lib.hid c1
  have k0 := h.c0
  have k1 := h.n2 x hx
  have h0 : (0 : Int) ≤ (x : Int) := by omega
  have h1 : (x : Int) < (n : Int) := by omega
  generalize S.ls x = v at *
  clear c1 h
  go_enter Try.func23, Try.ntmps23
  go_wp2_with fail
  refine (C1.out _ k0).mono ?_
  rintro e w1 ⟨rfl, rfl⟩
  go_wp2_with fail
  go_ret
  exact ⟨rfl, rfl⟩
theorem chain_Of_no (C Nb Lb n l : Nat) (S : CS) (x : Int) (w : World) (h : ChainAt w C Nb Lb n l S) (hx : x < 0 ∨ (n : Int) ≤ x) :
    Calls Try.prog 23 #[.pointer (some ⟨C, 0, none⟩), .int .i64 x] w fun e w' => e = .returned (.int .i64 (-1)) ∧ w = w' := by
  have c1 := fun W hc => chain_is_no C Nb n x W hc hx h.bn
  have C1 := Lib.hid c1
  have k0 := h.c0
  clear c1 h
  go_enter Try.func23, Try.ntmps23
  go_wp2_with fail
  refine (C1.out _ k0).mono ?_
  rintro e w1 ⟨rfl, rfl⟩
  go_wp2_with fail
  go_ret
  exact ⟨rfl, rfl⟩
theorem chain_Of_nil (x : Int) (w : World) :
    Calls Try.prog 23 #[.pointer none, .int .i64 x] w fun e w' => e = .returned (.int .i64 (-1)) ∧ w = w' := by
  go_enter Try.func23, Try.ntmps23
  go_wp2_with fail
  refine (chain_is_nil x _).mono ?_
  rintro e w1 ⟨rfl, rfl⟩
  go_wp2_with fail
  go_ret
  exact ⟨rfl, rfl⟩

theorem chain_Next_yes (C Nb Lb n l : Nat) (S : CS) (x : Nat) (w : World) (h : ChainAt w C Nb Lb n l S) (hx : x < n) :
    Calls Try.prog 30 #[.pointer (some ⟨C, 0, none⟩), .int .i64 x] w fun e w' => e = .returned (.int .i64 (S.nx x)) ∧ w = w' := by
  have c1 := fun W hc => chain_is_yes C Nb n x W hc hx h.bn
  have C1 := Lib.hid c1
  have k0 := h.c0
  have k1 := h.n1 x hx
  have h0 : (0 : Int) ≤ (x : Int) := by omega
  have h1 : (x : Int) < (n : Int) := by omega
  generalize S.nx x = v at *
  clear c1 h
  go_enter Try.func30, Try.ntmps30
  go_wp2_with fail
  refine (C1.out _ k0).mono ?_
  rintro e w1 ⟨rfl, rfl⟩
  go_wp2_with fail
  go_ret
  exact ⟨rfl, rfl⟩
theorem chain_Next_no (C Nb Lb n l : Nat) (S : CS) (x : Int) (w : World) (h : ChainAt w C Nb Lb n l S) (hx : x < 0 ∨ (n : Int) ≤ x) :
    Calls Try.prog 30 #[.pointer (some ⟨C, 0, none⟩), .int .i64 x] w fun e w' => e = .returned (.int .i64 (-1)) ∧ w = w' := by
  have c1 := fun W hc => chain_is_no C Nb n x W hc hx h.bn
  have C1 := Lib.hid c1
  have k0 := h.c0
  clear c1 h
  go_enter Try.func30, Try.ntmps30
  go_wp2_with fail
  refine (C1.out _ k0).mono ?_
  rintro e w1 ⟨rfl, rfl⟩
  go_wp2_with fail
  go_ret
  exact ⟨rfl, rfl⟩
theorem chain_Next_nil (x : Int) (w : World) :
    Calls Try.prog 30 #[.pointer none, .int .i64 x] w fun e w' => e = .returned (.int .i64 (-1)) ∧ w = w' := by
  go_enter Try.func30, Try.ntmps30
  go_wp2_with fail
  refine (chain_is_nil x _).mono ?_
  rintro e w1 ⟨rfl, rfl⟩
  go_wp2_with fail
  go_ret
  exact ⟨rfl, rfl⟩

theorem chain_Back_yes (C Nb Lb n l : Nat) (S : CS) (x : Nat) (w : World) (h : ChainAt w C Nb Lb n l S) (hx : x < n) :
    Calls Try.prog 27 #[.pointer (some ⟨C, 0, none⟩), .int .i64 x] w fun e w' => e = .returned (.int .i64 (S.bk x)) ∧ w = w' := by
  have c1 := fun W hc => chain_is_yes C Nb n x W hc hx h.bn
  have C1 := Lib.hid c1
  have k0 := h.c0
  have k1 := h.n0 x hx
  have h0 : (0 : Int) ≤ (x : Int) := by omega
  have h1 : (x : Int) < (n : Int) := by omega
  generalize S.bk x = v at *
  clear c1 h
  go_enter Try.func27, Try.ntmps27
  go_wp2_with fail
  refine (C1.out _ k0).mono ?_
  rintro e w1 ⟨rfl, rfl⟩
  go_wp2_with fail
  go_ret
  exact ⟨rfl, rfl⟩
theorem chain_Back_no (C Nb Lb n l : Nat) (S : CS) (x : Int) (w : World) (h : ChainAt w C Nb Lb n l S) (hx : x < 0 ∨ (n : Int) ≤ x) :
    Calls Try.prog 27 #[.pointer (some ⟨C, 0, none⟩), .int .i64 x] w fun e w' => e = .returned (.int .i64 (-1)) ∧ w = w' := by
  have c1 := fun W hc => chain_is_no C Nb n x W hc hx h.bn
  have C1 := Lib.hid c1
  have k0 := h.c0
  clear c1 h
  go_enter Try.func27, Try.ntmps27
  go_wp2_with fail
  refine (C1.out _ k0).mono ?_
  rintro e w1 ⟨rfl, rfl⟩
  go_wp2_with fail
  go_ret
  exact ⟨rfl, rfl⟩
theorem chain_Back_nil (x : Int) (w : World) :
    Calls Try.prog 27 #[.pointer none, .int .i64 x] w fun e w' => e = .returned (.int .i64 (-1)) ∧ w = w' := by
  go_enter Try.func27, Try.ntmps27
  go_wp2_with fail
  refine (chain_is_nil x _).mono ?_
  rintro e w1 ⟨rfl, rfl⟩
  go_wp2_with fail
  go_ret
  exact ⟨rfl, rfl⟩

theorem chain_First_yes (C Nb Lb n l : Nat) (S : CS) (x : Nat) (w : World) (h : ChainAt w C Nb Lb n l S) (hx : x < l) :
    Calls Try.prog 29 #[.pointer (some ⟨C, 0, none⟩), .int .i64 x] w fun e w' => e = .returned (.int .i64 (S.fn x)) ∧ w = w' := by
  have c1 := fun W hc => chain_has_yes C Lb l x W hc hx h.bl
  have C1 := Lib.hid c1
  have k0 := h.c1
  have k1 := h.l1 x hx
  have h0 : (0 : Int) ≤ (x : Int) := by omega
  have h1 : (x : Int) < (l : Int) := by omega
  generalize S.fn x = v at *
  clear c1 h
  go_enter Try.func29, Try.ntmps29
  go_wp2_with fail
  refine (C1.out _ k0).mono ?_
  rintro e w1 ⟨rfl, rfl⟩
  go_wp2_with fail
  go_ret
  exact ⟨rfl, rfl⟩
theorem chain_First_no (C Nb Lb n l : Nat) (S : CS) (x : Int) (w : World) (h : ChainAt w C Nb Lb n l S) (hx : x < 0 ∨ (l : Int) ≤ x) :
    Calls Try.prog 29 #[.pointer (some ⟨C, 0, none⟩), .int .i64 x] w fun e w' => e = .returned (.int .i64 (-1)) ∧ w = w' := by
  have c1 := fun W hc => chain_has_no C Lb l x W hc hx h.bl
  have C1 := Lib.hid c1
  have k0 := h.c1
  clear c1 h
  go_enter Try.func29, Try.ntmps29
  go_wp2_with fail
  refine (C1.out _ k0).mono ?_
  rintro e w1 ⟨rfl, rfl⟩
  go_wp2_with fail
  go_ret
  exact ⟨rfl, rfl⟩
theorem chain_First_nil (x : Int) (w : World) :
    Calls Try.prog 29 #[.pointer none, .int .i64 x] w fun e w' => e = .returned (.int .i64 (-1)) ∧ w = w' := by
  go_enter Try.func29, Try.ntmps29
  go_wp2_with fail
  refine (chain_has_nil x _).mono ?_
  rintro e w1 ⟨rfl, rfl⟩
  go_wp2_with fail
  go_ret
  exact ⟨rfl, rfl⟩

theorem chain_Last_yes (C Nb Lb n l : Nat) (S : CS) (x : Nat) (w : World) (h : ChainAt w C Nb Lb n l S) (hx : x < l) :
    Calls Try.prog 22 #[.pointer (some ⟨C, 0, none⟩), .int .i64 x] w fun e w' => e = .returned (.int .i64 (S.fb x)) ∧ w = w' := by
  have c1 := fun W hc => chain_has_yes C Lb l x W hc hx h.bl
  have C1 := Lib.hid c1
  have k0 := h.c1
  have k1 := h.l0 x hx
  have h0 : (0 : Int) ≤ (x : Int) := by omega
  have h1 : (x : Int) < (l : Int) := by omega
  generalize S.fb x = v at *
  clear c1 h
  go_enter Try.func22, Try.ntmps22
  go_wp2_with fail
  refine (C1.out _ k0).mono ?_
  rintro e w1 ⟨rfl, rfl⟩
  go_wp2_with fail
  go_ret
  exact ⟨rfl, rfl⟩
theorem chain_Last_no (C Nb Lb n l : Nat) (S : CS) (x : Int) (w : World) (h : ChainAt w C Nb Lb n l S) (hx : x < 0 ∨ (l : Int) ≤ x) :
    Calls Try.prog 22 #[.pointer (some ⟨C, 0, none⟩), .int .i64 x] w fun e w' => e = .returned (.int .i64 (-1)) ∧ w = w' := by
  have c1 := fun W hc => chain_has_no C Lb l x W hc hx h.bl
  have C1 := Lib.hid c1
  have k0 := h.c1
  clear c1 h
  go_enter Try.func22, Try.ntmps22
  go_wp2_with fail
  refine (C1.out _ k0).mono ?_
  rintro e w1 ⟨rfl, rfl⟩
  go_wp2_with fail
  go_ret
  exact ⟨rfl, rfl⟩
theorem chain_Last_nil (x : Int) (w : World) :
    Calls Try.prog 22 #[.pointer none, .int .i64 x] w fun e w' => e = .returned (.int .i64 (-1)) ∧ w = w' := by
  go_enter Try.func22, Try.ntmps22
  go_wp2_with fail
  refine (chain_has_nil x _).mono ?_
  rintro e w1 ⟨rfl, rfl⟩
  go_wp2_with fail
  go_ret
  exact ⟨rfl, rfl⟩

theorem chain_Len_yes (C Nb Lb n l : Nat) (S : CS) (x : Nat) (w : World) (h : ChainAt w C Nb Lb n l S) (hx : x < l) :
    Calls Try.prog 28 #[.pointer (some ⟨C, 0, none⟩), .int .i64 x] w fun e w' => e = .returned (.int .i64 (S.fl x)) ∧ w = w' := by
  have c1 := fun W hc => chain_has_yes C Lb l x W hc hx h.bl
  have C1 := Lib.hid c1
  have k0 := h.c1
  have k1 := h.l2 x hx
  have h0 : (0 : Int) ≤ (x : Int) := by omega
  have h1 : (x : Int) < (l : Int) := by omega
  generalize S.fl x = v at *
  clear c1 h
  go_enter Try.func28, Try.ntmps28
  go_wp2_with fail
  refine (C1.out _ k0).mono ?_
  rintro e w1 ⟨rfl, rfl⟩
  go_wp2_with fail
  go_ret
  exact ⟨rfl, rfl⟩
theorem chain_Len_no (C Nb Lb n l : Nat) (S : CS) (x : Int) (w : World) (h : ChainAt w C Nb Lb n l S) (hx : x < 0 ∨ (l : Int) ≤ x) :
    Calls Try.prog 28 #[.pointer (some ⟨C, 0, none⟩), .int .i64 x] w fun e w' => e = .returned (.int .i64 (0)) ∧ w = w' := by
  have c1 := fun W hc => chain_has_no C Lb l x W hc hx h.bl
  have C1 := Lib.hid c1
  have k0 := h.c1
  clear c1 h
  go_enter Try.func28, Try.ntmps28
  go_wp2_with fail
  refine (C1.out _ k0).mono ?_
  rintro e w1 ⟨rfl, rfl⟩
  go_wp2_with fail
  go_ret
  exact ⟨rfl, rfl⟩
theorem chain_Len_nil (x : Int) (w : World) :
    Calls Try.prog 28 #[.pointer none, .int .i64 x] w fun e w' => e = .returned (.int .i64 (0)) ∧ w = w' := by
  go_enter Try.func28, Try.ntmps28
  go_wp2_with fail
  refine (chain_has_nil x _).mono ?_
  rintro e w1 ⟨rfl, rfl⟩
  go_wp2_with fail
  go_ret
  exact ⟨rfl, rfl⟩

end Go.Proofs.Ytdhcmnbajkpjiaa
