/-
  Chain: what Add refuses.
-/
import Derived.Test.YtdhcmnbajkpjiaaChainC
namespace Go.Proofs.Ytdhcmnbajkpjiaa
open Go.RowKit
set_option linter.unusedVariables false

theorem chain_Add_nil (i x : Int) (w : World) : Calls Try.prog 19 #[.pointer none, .int .i64 i, .int .i64 x] w fun e w' => e = .returned (.bool false) ∧ w = w' := by
  go_enter Try.func19, Try.ntmps19
  go_wp2_with fail
  refine (chain_has_nil i _).mono ?_
  rintro e w1 ⟨rfl, rfl⟩
  go_wp2_with fail
  go_ret
  exact ⟨rfl, rfl⟩

theorem chain_Add_nolist (C Nb Lb n l : Nat) (S : CS) (x i : Int) (w : World) (h : ChainAt w C Nb Lb n l S) (hi : i < 0 ∨ (l : Int) ≤ i) : Calls Try.prog 19 #[.pointer (some ⟨C, 0, none⟩), .int .i64 i, .int .i64 x] w fun e w' => e = .returned (.bool false) ∧ w = w' := by
  have c1 := fun W hc => chain_has_no C Lb l i W hc hi h.bl
  have C1 := Lib.hid c1
  have k1 := h.c1
  clear c1 h hi
  go_enter Try.func19, Try.ntmps19
  go_wp2_with fail
  refine (C1.out _ k1).mono ?_
  rintro e w1 ⟨rfl, rfl⟩
  go_wp2_with fail
  go_ret
  exact ⟨rfl, rfl⟩

theorem chain_Add_nonode (C Nb Lb n l : Nat) (S : CS) (x : Int) (i : Nat) (w : World) (h : ChainAt w C Nb Lb n l S) (hi : i < l) (hx : x < 0 ∨ (n : Int) ≤ x) : Calls Try.prog 19 #[.pointer (some ⟨C, 0, none⟩), .int .i64 i, .int .i64 x] w fun e w' => e = .returned (.bool false) ∧ w = w' := by
  have c1 := fun W hc => chain_has_yes C Lb l i W hc hi h.bl
  have c2 := fun W hc => chain_is_no C Nb n x W hc hx h.bn
  have C1 := Lib.hid c1
  have C2 := Lib.hid c2
  have k0 := h.c0
  have k1 := h.c1
  clear c1 c2 h hx
  go_enter Try.func19, Try.ntmps19
  go_wp2_with fail
  refine (C1.out _ k1).mono ?_
  rintro e w1 ⟨rfl, rfl⟩
  go_wp2_with fail
  refine (C2.out _ k0).mono ?_
  rintro e w1 ⟨rfl, rfl⟩
  go_wp2_with fail
  go_ret
  exact ⟨rfl, rfl⟩

theorem chain_Add_inlist (C Nb Lb n l : Nat) (S : CS) (x i : Nat) (w : World) (h : ChainAt w C Nb Lb n l S) (hi : i < l) (hx : x < n) (hs : 0 ≤ S.ls x) : Calls Try.prog 19 #[.pointer (some ⟨C, 0, none⟩), .int .i64 i, .int .i64 x] w fun e w' => e = .returned (.bool false) ∧ w = w' := by
  have c1 := fun W hc => chain_has_yes C Lb l i W hc hi h.bl
  have c2 := fun W hc => chain_is_yes C Nb n x W hc hx h.bn
  have C1 := Lib.hid c1
  have C2 := Lib.hid c2
  have k0 := h.c0
  have k1 := h.c1
  have k2 := h.n2 x hx
  have h0 : (0 : Int) ≤ (x : Int) := by omega
  have h1 : (x : Int) < (n : Int) := by omega
  generalize S.ls x = v at *
  clear c1 c2 h
  go_enter Try.func19, Try.ntmps19
  go_wp2_with fail
  refine (C1.out _ k1).mono ?_
  rintro e w1 ⟨rfl, rfl⟩
  go_wp2_with fail
  refine (C2.out _ k0).mono ?_
  rintro e w1 ⟨rfl, rfl⟩
  go_wp2_with fail
  go_ret
  exact ⟨rfl, rfl⟩

end Go.Proofs.Ytdhcmnbajkpjiaa
