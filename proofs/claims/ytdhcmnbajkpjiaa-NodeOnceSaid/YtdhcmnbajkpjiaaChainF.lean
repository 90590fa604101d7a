/-
  Chain: the contract of Drop, where a list has but one node.
-/
import Derived.Test.YtdhcmnbajkpjiaaChainE
namespace Go.Proofs.Ytdhcmnbajkpjiaa
open Go.RowKit
set_option linter.unusedVariables false
attribute [local go_sem] drewN_alloc drewN_setCell

set_option maxHeartbeats 2000000 in
theorem chain_Drop_o (C Nb Lb n l : Nat) (S : CS) (x : Nat) (w : World) (h : ChainAt w C Nb Lb n l S) (hx : x < n) (i : Nat) (hs : S.ls x = (i : Int)) (hi : i < l) (hb : S.bk x = -1) (hf : S.nx x = -1) (hl : -1048576 ≤ S.fl i ∧ S.fl i ≤ 1048576) :
    Calls Try.prog 21 #[.pointer (some ⟨C, 0, none⟩), .int .i64 x] w fun e w' => e = .returned (.bool true) ∧ ChainAt w' C Nb Lb n l (S.drop x) ∧ Off Nb Lb w w' := by
  have c1 := fun W => chain_Of_yes C Nb Lb n l S x W
  rw [hs] at c1
  have C1 := Lib.hid c1
  have H := Lib.hid h
  have k0 := h.c0
  have x0 := h.n0 x hx
  have x1 := h.n1 x hx
  have x2 := h.n2 x hx
  rw [hs] at x2
  rw [hb] at x0
  rw [hf] at x1
  have h0 : (0 : Int) ≤ (x : Int) := by omega
  have h1 : (x : Int) < (n : Int) := by omega
  have h2 : (0 : Int) ≤ (i : Int) := by omega
  have h3 : (i : Int) < (l : Int) := by omega
  have q1 := h.hN
  have q2 := h.hL
  clear c1 h
  go_enter Try.func21, Try.ntmps21
  go_wp2_with fail
  refine (C1.out _ H.out hx).mono ?_
  rintro e w1 ⟨rfl, rfl⟩
  go_wp2_with fail
  refine region_name ?_
  intro W hW
  have hc0 : ChainAt W C Nb Lb n l S := by rw [hW]; exact H.out.keep (bel_alloc (Below.refl _ _) _)
  have ho0 : Off Nb Lb w W := by rw [hW]; exact (Off.refl Nb Lb w).alloc _
  obtain ⟨X, hX⟩ : ∃ X, w.heap.size = X := ⟨_, rfl⟩
  have X0 : W.cell? ⟨X, 0, none⟩ = some (.int .i64 (-1)) := by rw [hW, ← hX]; simp [go_sem]
  have X1 : W.cell? ⟨X, 1, none⟩ = some (.int .i64 (-1)) := by rw [hW, ← hX]; simp [go_sem]
  have X2 : W.cell? ⟨X, 2, none⟩ = some (.int .i64 i) := by rw [hW, ← hX]; simp [go_sem]
  have aX1 : X ≠ Nb := by omega
  have aX2 : X ≠ Lb := by omega
  have aNL := hc0.aNL
  have aCN := hc0.aCN
  have aCL := hc0.aCL
  have aX3 : X < W.heap.size := by rw [hW, ← hX]; simp
  rw [hX]
  have HC0 := Lib.hid hc0
  have HO0 := Lib.hid ho0
  clear hW k0 x0 x1 x2 q1 q2 hX C1 hc0 ho0
  have k0 := HC0.out.c0
  have k1 := HC0.out.c1
  have f1 := HC0.out.fzn
  have f2 := HC0.out.fzl
  obtain ⟨vn0x, cn0x⟩ : ∃ v, W.cell? ⟨Nb, x * 3, none⟩ = some (.int .i64 v) := ⟨_, HC0.out.n0 x hx⟩
  obtain ⟨vn1x, cn1x⟩ : ∃ v, W.cell? ⟨Nb, x * 3 + 1, none⟩ = some (.int .i64 v) := ⟨_, HC0.out.n1 x hx⟩
  obtain ⟨vn2x, cn2x⟩ : ∃ v, W.cell? ⟨Nb, x * 3 + 2, none⟩ = some (.int .i64 v) := ⟨_, HC0.out.n2 x hx⟩
  obtain ⟨vl0i, cl0i⟩ : ∃ v, W.cell? ⟨Lb, i * 3, none⟩ = some (.int .i64 v) := ⟨_, HC0.out.l0 i hi⟩
  obtain ⟨vl1i, cl1i⟩ : ∃ v, W.cell? ⟨Lb, i * 3 + 1, none⟩ = some (.int .i64 v) := ⟨_, HC0.out.l1 i hi⟩
  have cl2 := HC0.out.l2 i hi
  try dsimp only at cl2
  go_region
  go_wp2_with fail
  go_ret
  refine ⟨rfl, ?_, ?_⟩
  rotate_left
  · repeat (with_reducible refine Off.drew ?_)
    exact ((((((HO0.out.set (p := ⟨Lb, i * 3 + 1, none⟩) (Or.inr rfl) (.int .i64 (-1))).set (p := ⟨Lb, i * 3, none⟩) (Or.inr rfl) (.int .i64 (-1))).set (p := ⟨Lb, i * 3 + 2, none⟩) (Or.inr rfl) (.int .i64 (S.fl i - 1))).set (p := ⟨Nb, x * 3, none⟩) (Or.inl rfl) (.int .i64 (-1))).set (p := ⟨Nb, x * 3 + 1, none⟩) (Or.inl rfl) (.int .i64 (-1))).set (p := ⟨Nb, x * 3 + 2, none⟩) (Or.inl rfl) (.int .i64 (-1)))
  have e : S.drop x = { bk := upd (S.bk) x (-1), nx := upd (S.nx) x (-1), ls := upd (S.ls) x (-1), fb := upd (S.fb) i (-1), fn := upd (S.fn) i (-1), fl := upd (S.fl) i (S.fl i - 1) } := by
    unfold CS.drop
    rw [hb, hf, hs]
    simp
  rw [e]
  repeat (with_reducible refine ChainAt.drew ?_)
  exact ((((((HC0.out.set_l1 i (-1) hi).set_l0 i (-1) hi).set_l2 i (S.fl i - 1) hi).set_n0 x (-1) hx).set_n1 x (-1) hx).set_n2 x (-1) hx)

end Go.Proofs.Ytdhcmnbajkpjiaa
