/-
  Chain: the contract of Add.
-/
import Derived.Test.YtdhcmnbajkpjiaaChainB
import Derived.Test.YtdhcmnbajkpjiaaChainSet
namespace Go.Proofs.Ytdhcmnbajkpjiaa
open Go.RowKit
set_option linter.unusedVariables false
attribute [local go_sem] drewN_alloc drewN_setCell

theorem ChainAt.drew {w : World} {C Nb Lb n l : Nat} {S : CS} (h : ChainAt w C Nb Lb n l S) : ChainAt w.drew C Nb Lb n l S := h.keep (Below.refl _ _).drew
theorem ChainAt.drewN {w : World} {C Nb Lb n l : Nat} {S : CS} (h : ChainAt w C Nb Lb n l S) (k : Nat) : ChainAt (w.drewN k) C Nb Lb n l S := h.keep (bel_drewN (Below.refl _ _) k)

theorem post_name {Q : Exit → Act → World → Prop} {e : Exit} {a : Act} {w : World} (h : ∀ W, W = w → Q e a W) : Q e a w := h w rfl

set_option maxHeartbeats 2000000 in
theorem chain_Add_far (C Nb Lb n l : Nat) (S : CS) (x i : Nat) (w : World) (h : ChainAt w C Nb Lb n l S) (hx : x < n) (hi : i < l) (hs : S.ls x < 0) (y : Nat) (hy : S.fb i = (y : Int)) (hyn : y < n) (hf : 0 ≤ S.fl i ∧ S.fl i ≤ 1048576) :
    Calls Try.prog 19 #[.pointer (some ⟨C, 0, none⟩), .int .i64 i, .int .i64 x] w fun e w' => e = .returned (.bool true) ∧ ChainAt w' C Nb Lb n l (S.add i x) ∧ Off Nb Lb w w' := by
  have c1 := fun W hc => chain_has_yes C Lb l i W hc hi h.bl
  have c2 := fun W hc => chain_is_yes C Nb n x W hc hx h.bn
  have C1 := Lib.hid c1
  have C2 := Lib.hid c2
  have H := Lib.hid h
  have k0 := h.c0
  have k1 := h.c1
  have k2 := h.n2 x hx
  have l0 := h.l0 i hi
  have x0 := h.n0 x hx
  have x1 := h.n1 x hx
  have f1 := h.fzn
  have f2 := h.fzl
  have aCN := h.aCN
  have aCL := h.aCL
  have aNL := h.aNL
  have h0 : (0 : Int) ≤ (x : Int) := by omega
  have h1 : (x : Int) < (n : Int) := by omega
  have h2 : (0 : Int) ≤ (i : Int) := by omega
  have h3 : (i : Int) < (l : Int) := by omega
  rw [hy] at l0
  generalize S.ls x = v at *
  clear c1 c2 h
  go_enter Try.func19, Try.ntmps19
  go_wp2_with fail
  refine (C1.out _ k1).mono ?_
  rintro e w1 ⟨rfl, rfl⟩
  go_wp2_with fail
  refine (C2.out _ k0).mono ?_
  rintro e w1 ⟨rfl, rfl⟩
  go_wp2_with fail
  go_region
  refine post_name ?_
  intro W hW
  have hc1 := (((H.out.set_n0 x y hx).set_n1 x (-1) hx).set_n2 x i hx).drew
  have ho1 := ((((Off.refl Nb Lb w).set (p := ⟨Nb, x * 3, none⟩) (Or.inl rfl) (.int .i64 y)).set (p := ⟨Nb, x * 3 + 1, none⟩) (Or.inl rfl) (.int .i64 (-1))).set (p := ⟨Nb, x * 3 + 2, none⟩) (Or.inl rfl) (.int .i64 i)).drew
  rw [← hW] at hc1 ho1
  clear hW k0 k1 k2 l0 x0 x1 f1 f2
  have g0 : (0 : Int) ≤ (y : Int) := by omega
  have g1 : (y : Int) < (n : Int) := by omega
  have k0 := hc1.c0
  have l0 := hc1.l0 i hi
  have l2 := hc1.l2 i hi
  have y1 := hc1.n1 y hyn
  have f1 := hc1.fzn
  have f2 := hc1.fzl
  dsimp only at l0 l2 y1
  rw [hy] at l0
  obtain ⟨t, ht⟩ : ∃ t, upd S.nx x (-1) y = t := ⟨_, rfl⟩
  rw [ht] at y1
  have HC1 := Lib.hid hc1
  have HO1 := Lib.hid ho1
  clear hc1 ho1 ht
  go_wp2_with fail
  go_region
  refine post_name ?_
  intro W2 hW2
  have hc2 := (HC1.out.set_n1 y x hyn).drew
  have ho2 := (HO1.out.set (p := ⟨Nb, y * 3 + 1, none⟩) (Or.inl rfl) (.int .i64 x)).drew
  rw [← hW2] at hc2 ho2
  clear hW2 k0 l0 l2 y1 f1 f2
  have l0 := hc2.l0 i hi
  have l2 := hc2.l2 i hi
  have f2 := hc2.fzl
  dsimp only at l0 l2 hc2
  have HC2 := Lib.hid hc2
  have HO2 := Lib.hid ho2
  clear hc2 ho2
  go_wp2_with fail
  go_ret
  refine ⟨rfl, ?_, (HO2.out.set (p := ⟨Lb, i * 3, none⟩) (Or.inr rfl) (.int .i64 x)).set (p := ⟨Lb, i * 3 + 2, none⟩) (Or.inr rfl) (.int .i64 (S.fl i + 1))⟩
  have e : S.add i x = { bk := upd S.bk x y, nx := upd (upd S.nx x (-1)) y x, ls := upd S.ls x i, fb := upd S.fb i x, fn := S.fn, fl := upd S.fl i (S.fl i + 1) } := by
    unfold CS.add
    rw [hy, if_pos (by omega), if_pos (by omega), Int.toNat_natCast]
  rw [e]
  exact (HC2.out.set_l0 i x hi).set_l2 i (S.fl i + 1) hi

set_option maxHeartbeats 2000000 in
theorem chain_Add_first (C Nb Lb n l : Nat) (S : CS) (x i : Nat) (w : World) (h : ChainAt w C Nb Lb n l S) (hx : x < n) (hi : i < l) (hs : S.ls x < 0) (hy : S.fb i = -1) (hf : 0 ≤ S.fl i ∧ S.fl i ≤ 1048576) :
    Calls Try.prog 19 #[.pointer (some ⟨C, 0, none⟩), .int .i64 i, .int .i64 x] w fun e w' => e = .returned (.bool true) ∧ ChainAt w' C Nb Lb n l (S.add i x) ∧ Off Nb Lb w w' := by
  have c1 := fun W hc => chain_has_yes C Lb l i W hc hi h.bl
  have c2 := fun W hc => chain_is_yes C Nb n x W hc hx h.bn
  have C1 := Lib.hid c1
  have C2 := Lib.hid c2
  have H := Lib.hid h
  have k0 := h.c0
  have k1 := h.c1
  have k2 := h.n2 x hx
  have l0 := h.l0 i hi
  have x0 := h.n0 x hx
  have x1 := h.n1 x hx
  have f1 := h.fzn
  have f2 := h.fzl
  have aCN := h.aCN
  have aCL := h.aCL
  have aNL := h.aNL
  have h0 : (0 : Int) ≤ (x : Int) := by omega
  have h1 : (x : Int) < (n : Int) := by omega
  have h2 : (0 : Int) ≤ (i : Int) := by omega
  have h3 : (i : Int) < (l : Int) := by omega
  rw [hy] at l0
  generalize S.ls x = v at *
  clear c1 c2 h
  go_enter Try.func19, Try.ntmps19
  go_wp2_with fail
  refine (C1.out _ k1).mono ?_
  rintro e w1 ⟨rfl, rfl⟩
  go_wp2_with fail
  refine (C2.out _ k0).mono ?_
  rintro e w1 ⟨rfl, rfl⟩
  go_wp2_with fail
  go_region
  refine post_name ?_
  intro W hW
  have hc1 := (((H.out.set_n0 x (-1) hx).set_n1 x (-1) hx).set_n2 x i hx).drew
  have ho1 := ((((Off.refl Nb Lb w).set (p := ⟨Nb, x * 3, none⟩) (Or.inl rfl) (.int .i64 (-1))).set (p := ⟨Nb, x * 3 + 1, none⟩) (Or.inl rfl) (.int .i64 (-1))).set (p := ⟨Nb, x * 3 + 2, none⟩) (Or.inl rfl) (.int .i64 i)).drew
  rw [← hW] at hc1 ho1
  clear hW k0 k1 k2 l0 x0 x1 f1 f2
  have l0 := hc1.l0 i hi
  have l1 := hc1.l1 i hi
  have l2 := hc1.l2 i hi
  have f2 := hc1.fzl
  dsimp only at l0 l1 l2 hc1
  rw [hy] at l0
  have HC1 := Lib.hid hc1
  have HO1 := Lib.hid ho1
  clear hc1 ho1
  go_wp2_with fail
  go_ret
  refine ⟨rfl, ?_, ((HO1.out.set (p := ⟨Lb, i * 3 + 1, none⟩) (Or.inr rfl) (.int .i64 x)).set (p := ⟨Lb, i * 3, none⟩) (Or.inr rfl) (.int .i64 x)).set (p := ⟨Lb, i * 3 + 2, none⟩) (Or.inr rfl) (.int .i64 (S.fl i + 1))⟩
  have e : S.add i x = { bk := upd S.bk x (-1), nx := upd S.nx x (-1), ls := upd S.ls x i, fb := upd S.fb i x, fn := upd S.fn i x, fl := upd S.fl i (S.fl i + 1) } := by
    unfold CS.add
    rw [hy, if_neg (by omega), if_neg (by omega)]
  rw [e]
  exact ((HC1.out.set_l1 i x hi).set_l0 i x hi).set_l2 i (S.fl i + 1) hi
end Go.Proofs.Ytdhcmnbajkpjiaa
