/-
  Chain: the contract of Drop.
-/
import Derived.Test.YtdhcmnbajkpjiaaChainD
namespace Go.Proofs.Ytdhcmnbajkpjiaa
open Go.RowKit
set_option linter.unusedVariables false
attribute [local go_sem] drewN_alloc drewN_setCell

theorem Off.cell {A B : Nat} {w w' : World} (h : Off A B w w') {a : Addr} (h1 : a.block ≠ A) (h2 : a.block ≠ B) (h3 : a.block < w.heap.size) : w'.cell? a = w.cell? a := by
  unfold World.cell?
  rw [h.block a.block h1 h2 h3]

set_option maxHeartbeats 2000000 in
theorem chain_Drop_bf (C Nb Lb n l : Nat) (S : CS) (x : Nat) (w : World) (h : ChainAt w C Nb Lb n l S) (hx : x < n) (i : Nat) (hs : S.ls x = (i : Int)) (hi : i < l) (b : Nat) (hb : S.bk x = (b : Int)) (hbn : b < n) (f : Nat) (hf : S.nx x = (f : Int)) (hfn : f < n) (hl : -1048576 ≤ S.fl i ∧ S.fl i ≤ 1048576) :
    Calls Try.prog 21 #[.pointer (some ⟨C, 0, none⟩), .int .i64 x] w fun e w' => e = .returned (.bool true) ∧ ChainAt w' C Nb Lb n l (S.drop x) ∧ Off Nb Lb w w' := by
  have c1 := fun W => chain_Of_yes C Nb Lb n l S x W
  rw [hs] at c1
  have C1 := Lib.hid c1
  have H := Lib.hid h
  have k0 := h.c0
  have x0 := h.n0 x hx
  have x1 := h.n1 x hx
  have x2 := h.n2 x hx
  rw [hs] at x2
  rw [hb] at x0
  rw [hf] at x1
  have h0 : (0 : Int) ≤ (x : Int) := by omega
  have h1 : (x : Int) < (n : Int) := by omega
  have h2 : (0 : Int) ≤ (i : Int) := by omega
  have h3 : (i : Int) < (l : Int) := by omega
  have q1 := h.hN
  have q2 := h.hL
  clear c1 h
  go_enter Try.func21, Try.ntmps21
  go_wp2_with fail
  refine (C1.out _ H.out hx).mono ?_
  rintro e w1 ⟨rfl, rfl⟩
  go_wp2_with fail
  refine region_name ?_
  intro W hW
  have hc0 : ChainAt W C Nb Lb n l S := by rw [hW]; exact H.out.keep (bel_alloc (Below.refl _ _) _)
  have ho0 : Off Nb Lb w W := by rw [hW]; exact (Off.refl Nb Lb w).alloc _
  obtain ⟨X, hX⟩ : ∃ X, w.heap.size = X := ⟨_, rfl⟩
  have X0 : W.cell? ⟨X, 0, none⟩ = some (.int .i64 (b : Int)) := by rw [hW, ← hX]; simp [go_sem]
  have X1 : W.cell? ⟨X, 1, none⟩ = some (.int .i64 (f : Int)) := by rw [hW, ← hX]; simp [go_sem]
  have X2 : W.cell? ⟨X, 2, none⟩ = some (.int .i64 i) := by rw [hW, ← hX]; simp [go_sem]
  have aX1 : X ≠ Nb := by omega
  have aX2 : X ≠ Lb := by omega
  have aNL := hc0.aNL
  have aCN := hc0.aCN
  have aCL := hc0.aCL
  have aX3 : X < W.heap.size := by rw [hW, ← hX]; simp
  rw [hX]
  have HC0 := Lib.hid hc0
  have HO0 := Lib.hid ho0
  clear hW k0 x0 x1 x2 q1 q2 hX C1 hc0 ho0
  have g0 : (0 : Int) ≤ (b : Int) := by omega
  have g1 : (b : Int) < (n : Int) := by omega
  have g2 : (0 : Int) ≤ (f : Int) := by omega
  have g3 : (f : Int) < (n : Int) := by omega
  have k0 := HC0.out.c0
  have k1 := HC0.out.c1
  have f1 := HC0.out.fzn
  have f2 := HC0.out.fzl
  obtain ⟨vn0x, cn0x⟩ : ∃ v, W.cell? ⟨Nb, x * 3, none⟩ = some (.int .i64 v) := ⟨_, HC0.out.n0 x hx⟩
  obtain ⟨vn1x, cn1x⟩ : ∃ v, W.cell? ⟨Nb, x * 3 + 1, none⟩ = some (.int .i64 v) := ⟨_, HC0.out.n1 x hx⟩
  obtain ⟨vn2x, cn2x⟩ : ∃ v, W.cell? ⟨Nb, x * 3 + 2, none⟩ = some (.int .i64 v) := ⟨_, HC0.out.n2 x hx⟩
  obtain ⟨vl0i, cl0i⟩ : ∃ v, W.cell? ⟨Lb, i * 3, none⟩ = some (.int .i64 v) := ⟨_, HC0.out.l0 i hi⟩
  obtain ⟨vl1i, cl1i⟩ : ∃ v, W.cell? ⟨Lb, i * 3 + 1, none⟩ = some (.int .i64 v) := ⟨_, HC0.out.l1 i hi⟩
  obtain ⟨vn1b, cn1b⟩ : ∃ v, W.cell? ⟨Nb, b * 3 + 1, none⟩ = some (.int .i64 v) := ⟨_, HC0.out.n1 b hbn⟩
  obtain ⟨vn0f, cn0f⟩ : ∃ v, W.cell? ⟨Nb, f * 3, none⟩ = some (.int .i64 v) := ⟨_, HC0.out.n0 f hfn⟩
  have cl2 := HC0.out.l2 i hi
  try dsimp only at cl2
  go_region
  go_wp2_with fail
  go_region
  refine post_name ?_
  intro W1 hW1
  have hc1 : ChainAt W1 C Nb Lb n l { bk := S.bk, nx := upd (S.nx) b (f : Int), ls := S.ls, fb := S.fb, fn := S.fn, fl := S.fl } := by
    rw [hW1]
    repeat (refine ChainAt.drew ?_)
    exact (HC0.out.set_n1 b (f : Int) hbn)
  have ho1 : Off Nb Lb w W1 := by
    rw [hW1]
    repeat (refine Off.drew ?_)
    exact (HO0.out.set (p := ⟨Nb, b * 3 + 1, none⟩) (Or.inl rfl) (.int .i64 (f : Int)))
  have hd1 : Off Nb Lb W W1 := by
    rw [hW1]
    repeat (refine Off.drew ?_)
    exact ((Off.refl Nb Lb W).set (p := ⟨Nb, b * 3 + 1, none⟩) (Or.inl rfl) (.int .i64 (f : Int)))
  have X0 := (hd1.cell (a := ⟨X, 0, none⟩) aX1 aX2 aX3).trans X0
  have X1 := (hd1.cell (a := ⟨X, 1, none⟩) aX1 aX2 aX3).trans X1
  have X2 := (hd1.cell (a := ⟨X, 2, none⟩) aX1 aX2 aX3).trans X2
  have aX3 := Nat.lt_of_lt_of_le aX3 hd1.size
  have HC1 := Lib.hid hc1
  have HO1 := Lib.hid ho1
  clear hW1 hc1 ho1 hd1 k0 k1 f1 f2 cn0x cn1x cn2x cl0i cl1i cn1b cn0f cl2
  have k0 := HC1.out.c0
  have k1 := HC1.out.c1
  have f1 := HC1.out.fzn
  have f2 := HC1.out.fzl
  obtain ⟨vn0x, cn0x⟩ : ∃ v, W1.cell? ⟨Nb, x * 3, none⟩ = some (.int .i64 v) := ⟨_, HC1.out.n0 x hx⟩
  obtain ⟨vn1x, cn1x⟩ : ∃ v, W1.cell? ⟨Nb, x * 3 + 1, none⟩ = some (.int .i64 v) := ⟨_, HC1.out.n1 x hx⟩
  obtain ⟨vn2x, cn2x⟩ : ∃ v, W1.cell? ⟨Nb, x * 3 + 2, none⟩ = some (.int .i64 v) := ⟨_, HC1.out.n2 x hx⟩
  obtain ⟨vl0i, cl0i⟩ : ∃ v, W1.cell? ⟨Lb, i * 3, none⟩ = some (.int .i64 v) := ⟨_, HC1.out.l0 i hi⟩
  obtain ⟨vl1i, cl1i⟩ : ∃ v, W1.cell? ⟨Lb, i * 3 + 1, none⟩ = some (.int .i64 v) := ⟨_, HC1.out.l1 i hi⟩
  obtain ⟨vn1b, cn1b⟩ : ∃ v, W1.cell? ⟨Nb, b * 3 + 1, none⟩ = some (.int .i64 v) := ⟨_, HC1.out.n1 b hbn⟩
  obtain ⟨vn0f, cn0f⟩ : ∃ v, W1.cell? ⟨Nb, f * 3, none⟩ = some (.int .i64 v) := ⟨_, HC1.out.n0 f hfn⟩
  have cl2 := HC1.out.l2 i hi
  try dsimp only at cl2
  go_wp2_with fail
  go_region
  refine post_name ?_
  intro W2 hW2
  have hc2 : ChainAt W2 C Nb Lb n l { bk := upd (S.bk) f (b : Int), nx := upd (S.nx) b (f : Int), ls := S.ls, fb := S.fb, fn := S.fn, fl := S.fl } := by
    rw [hW2]
    repeat (refine ChainAt.drew ?_)
    exact (HC1.out.set_n0 f (b : Int) hfn)
  have ho2 : Off Nb Lb w W2 := by
    rw [hW2]
    repeat (refine Off.drew ?_)
    exact (HO1.out.set (p := ⟨Nb, f * 3, none⟩) (Or.inl rfl) (.int .i64 (b : Int)))
  have hd2 : Off Nb Lb W1 W2 := by
    rw [hW2]
    repeat (refine Off.drew ?_)
    exact ((Off.refl Nb Lb W1).set (p := ⟨Nb, f * 3, none⟩) (Or.inl rfl) (.int .i64 (b : Int)))
  have X0 := (hd2.cell (a := ⟨X, 0, none⟩) aX1 aX2 aX3).trans X0
  have X1 := (hd2.cell (a := ⟨X, 1, none⟩) aX1 aX2 aX3).trans X1
  have X2 := (hd2.cell (a := ⟨X, 2, none⟩) aX1 aX2 aX3).trans X2
  have aX3 := Nat.lt_of_lt_of_le aX3 hd2.size
  have HC2 := Lib.hid hc2
  have HO2 := Lib.hid ho2
  clear hW2 hc2 ho2 hd2 k0 k1 f1 f2 cn0x cn1x cn2x cl0i cl1i cn1b cn0f cl2
  have k0 := HC2.out.c0
  have k1 := HC2.out.c1
  have f1 := HC2.out.fzn
  have f2 := HC2.out.fzl
  obtain ⟨vn0x, cn0x⟩ : ∃ v, W2.cell? ⟨Nb, x * 3, none⟩ = some (.int .i64 v) := ⟨_, HC2.out.n0 x hx⟩
  obtain ⟨vn1x, cn1x⟩ : ∃ v, W2.cell? ⟨Nb, x * 3 + 1, none⟩ = some (.int .i64 v) := ⟨_, HC2.out.n1 x hx⟩
  obtain ⟨vn2x, cn2x⟩ : ∃ v, W2.cell? ⟨Nb, x * 3 + 2, none⟩ = some (.int .i64 v) := ⟨_, HC2.out.n2 x hx⟩
  obtain ⟨vl0i, cl0i⟩ : ∃ v, W2.cell? ⟨Lb, i * 3, none⟩ = some (.int .i64 v) := ⟨_, HC2.out.l0 i hi⟩
  obtain ⟨vl1i, cl1i⟩ : ∃ v, W2.cell? ⟨Lb, i * 3 + 1, none⟩ = some (.int .i64 v) := ⟨_, HC2.out.l1 i hi⟩
  obtain ⟨vn1b, cn1b⟩ : ∃ v, W2.cell? ⟨Nb, b * 3 + 1, none⟩ = some (.int .i64 v) := ⟨_, HC2.out.n1 b hbn⟩
  obtain ⟨vn0f, cn0f⟩ : ∃ v, W2.cell? ⟨Nb, f * 3, none⟩ = some (.int .i64 v) := ⟨_, HC2.out.n0 f hfn⟩
  have cl2 := HC2.out.l2 i hi
  try dsimp only at cl2
  go_wp2_with fail
  go_ret
  refine ⟨rfl, ?_, ((((HO2.out.set (p := ⟨Lb, i * 3 + 2, none⟩) (Or.inr rfl) (.int .i64 (S.fl i - 1))).set (p := ⟨Nb, x * 3, none⟩) (Or.inl rfl) (.int .i64 (-1))).set (p := ⟨Nb, x * 3 + 1, none⟩) (Or.inl rfl) (.int .i64 (-1))).set (p := ⟨Nb, x * 3 + 2, none⟩) (Or.inl rfl) (.int .i64 (-1)))⟩
  have e : S.drop x = { bk := upd (upd (S.bk) f (b : Int)) x (-1), nx := upd (upd (S.nx) b (f : Int)) x (-1), ls := upd (S.ls) x (-1), fb := S.fb, fn := S.fn, fl := upd (S.fl) i (S.fl i - 1) } := by
    unfold CS.drop
    rw [hb, hf, hs]
    simp
  rw [e]

  exact ((((HC2.out.set_l2 i (S.fl i - 1) hi).set_n0 x (-1) hx).set_n1 x (-1) hx).set_n2 x (-1) hx)

set_option maxHeartbeats 2000000 in
theorem chain_Drop_b (C Nb Lb n l : Nat) (S : CS) (x : Nat) (w : World) (h : ChainAt w C Nb Lb n l S) (hx : x < n) (i : Nat) (hs : S.ls x = (i : Int)) (hi : i < l) (b : Nat) (hb : S.bk x = (b : Int)) (hbn : b < n) (hf : S.nx x = -1) (hl : -1048576 ≤ S.fl i ∧ S.fl i ≤ 1048576) :
    Calls Try.prog 21 #[.pointer (some ⟨C, 0, none⟩), .int .i64 x] w fun e w' => e = .returned (.bool true) ∧ ChainAt w' C Nb Lb n l (S.drop x) ∧ Off Nb Lb w w' := by
  have c1 := fun W => chain_Of_yes C Nb Lb n l S x W
  rw [hs] at c1
  have C1 := Lib.hid c1
  have H := Lib.hid h
  have k0 := h.c0
  have x0 := h.n0 x hx
  have x1 := h.n1 x hx
  have x2 := h.n2 x hx
  rw [hs] at x2
  rw [hb] at x0
  rw [hf] at x1
  have h0 : (0 : Int) ≤ (x : Int) := by omega
  have h1 : (x : Int) < (n : Int) := by omega
  have h2 : (0 : Int) ≤ (i : Int) := by omega
  have h3 : (i : Int) < (l : Int) := by omega
  have q1 := h.hN
  have q2 := h.hL
  clear c1 h
  go_enter Try.func21, Try.ntmps21
  go_wp2_with fail
  refine (C1.out _ H.out hx).mono ?_
  rintro e w1 ⟨rfl, rfl⟩
  go_wp2_with fail
  refine region_name ?_
  intro W hW
  have hc0 : ChainAt W C Nb Lb n l S := by rw [hW]; exact H.out.keep (bel_alloc (Below.refl _ _) _)
  have ho0 : Off Nb Lb w W := by rw [hW]; exact (Off.refl Nb Lb w).alloc _
  obtain ⟨X, hX⟩ : ∃ X, w.heap.size = X := ⟨_, rfl⟩
  have X0 : W.cell? ⟨X, 0, none⟩ = some (.int .i64 (b : Int)) := by rw [hW, ← hX]; simp [go_sem]
  have X1 : W.cell? ⟨X, 1, none⟩ = some (.int .i64 (-1)) := by rw [hW, ← hX]; simp [go_sem]
  have X2 : W.cell? ⟨X, 2, none⟩ = some (.int .i64 i) := by rw [hW, ← hX]; simp [go_sem]
  have aX1 : X ≠ Nb := by omega
  have aX2 : X ≠ Lb := by omega
  have aNL := hc0.aNL
  have aCN := hc0.aCN
  have aCL := hc0.aCL
  have aX3 : X < W.heap.size := by rw [hW, ← hX]; simp
  rw [hX]
  have HC0 := Lib.hid hc0
  have HO0 := Lib.hid ho0
  clear hW k0 x0 x1 x2 q1 q2 hX C1 hc0 ho0
  have g0 : (0 : Int) ≤ (b : Int) := by omega
  have g1 : (b : Int) < (n : Int) := by omega
  have k0 := HC0.out.c0
  have k1 := HC0.out.c1
  have f1 := HC0.out.fzn
  have f2 := HC0.out.fzl
  obtain ⟨vn0x, cn0x⟩ : ∃ v, W.cell? ⟨Nb, x * 3, none⟩ = some (.int .i64 v) := ⟨_, HC0.out.n0 x hx⟩
  obtain ⟨vn1x, cn1x⟩ : ∃ v, W.cell? ⟨Nb, x * 3 + 1, none⟩ = some (.int .i64 v) := ⟨_, HC0.out.n1 x hx⟩
  obtain ⟨vn2x, cn2x⟩ : ∃ v, W.cell? ⟨Nb, x * 3 + 2, none⟩ = some (.int .i64 v) := ⟨_, HC0.out.n2 x hx⟩
  obtain ⟨vl0i, cl0i⟩ : ∃ v, W.cell? ⟨Lb, i * 3, none⟩ = some (.int .i64 v) := ⟨_, HC0.out.l0 i hi⟩
  obtain ⟨vl1i, cl1i⟩ : ∃ v, W.cell? ⟨Lb, i * 3 + 1, none⟩ = some (.int .i64 v) := ⟨_, HC0.out.l1 i hi⟩
  obtain ⟨vn1b, cn1b⟩ : ∃ v, W.cell? ⟨Nb, b * 3 + 1, none⟩ = some (.int .i64 v) := ⟨_, HC0.out.n1 b hbn⟩
  have cl2 := HC0.out.l2 i hi
  try dsimp only at cl2
  go_region
  go_wp2_with fail
  go_region
  refine post_name ?_
  intro W1 hW1
  have hc1 : ChainAt W1 C Nb Lb n l { bk := S.bk, nx := upd (S.nx) b (-1), ls := S.ls, fb := S.fb, fn := S.fn, fl := S.fl } := by
    rw [hW1]
    repeat (refine ChainAt.drew ?_)
    exact (HC0.out.set_n1 b (-1) hbn)
  have ho1 : Off Nb Lb w W1 := by
    rw [hW1]
    repeat (refine Off.drew ?_)
    exact (HO0.out.set (p := ⟨Nb, b * 3 + 1, none⟩) (Or.inl rfl) (.int .i64 (-1)))
  have hd1 : Off Nb Lb W W1 := by
    rw [hW1]
    repeat (refine Off.drew ?_)
    exact ((Off.refl Nb Lb W).set (p := ⟨Nb, b * 3 + 1, none⟩) (Or.inl rfl) (.int .i64 (-1)))
  have X0 := (hd1.cell (a := ⟨X, 0, none⟩) aX1 aX2 aX3).trans X0
  have X1 := (hd1.cell (a := ⟨X, 1, none⟩) aX1 aX2 aX3).trans X1
  have X2 := (hd1.cell (a := ⟨X, 2, none⟩) aX1 aX2 aX3).trans X2
  have aX3 := Nat.lt_of_lt_of_le aX3 hd1.size
  have HC1 := Lib.hid hc1
  have HO1 := Lib.hid ho1
  clear hW1 hc1 ho1 hd1 k0 k1 f1 f2 cn0x cn1x cn2x cl0i cl1i cn1b cl2
  have k0 := HC1.out.c0
  have k1 := HC1.out.c1
  have f1 := HC1.out.fzn
  have f2 := HC1.out.fzl
  obtain ⟨vn0x, cn0x⟩ : ∃ v, W1.cell? ⟨Nb, x * 3, none⟩ = some (.int .i64 v) := ⟨_, HC1.out.n0 x hx⟩
  obtain ⟨vn1x, cn1x⟩ : ∃ v, W1.cell? ⟨Nb, x * 3 + 1, none⟩ = some (.int .i64 v) := ⟨_, HC1.out.n1 x hx⟩
  obtain ⟨vn2x, cn2x⟩ : ∃ v, W1.cell? ⟨Nb, x * 3 + 2, none⟩ = some (.int .i64 v) := ⟨_, HC1.out.n2 x hx⟩
  obtain ⟨vl0i, cl0i⟩ : ∃ v, W1.cell? ⟨Lb, i * 3, none⟩ = some (.int .i64 v) := ⟨_, HC1.out.l0 i hi⟩
  obtain ⟨vl1i, cl1i⟩ : ∃ v, W1.cell? ⟨Lb, i * 3 + 1, none⟩ = some (.int .i64 v) := ⟨_, HC1.out.l1 i hi⟩
  obtain ⟨vn1b, cn1b⟩ : ∃ v, W1.cell? ⟨Nb, b * 3 + 1, none⟩ = some (.int .i64 v) := ⟨_, HC1.out.n1 b hbn⟩
  have cl2 := HC1.out.l2 i hi
  try dsimp only at cl2
  go_wp2_with fail
  go_ret
  refine ⟨rfl, ?_, (((((HO1.out.set (p := ⟨Lb, i * 3, none⟩) (Or.inr rfl) (.int .i64 (b : Int))).set (p := ⟨Lb, i * 3 + 2, none⟩) (Or.inr rfl) (.int .i64 (S.fl i - 1))).set (p := ⟨Nb, x * 3, none⟩) (Or.inl rfl) (.int .i64 (-1))).set (p := ⟨Nb, x * 3 + 1, none⟩) (Or.inl rfl) (.int .i64 (-1))).set (p := ⟨Nb, x * 3 + 2, none⟩) (Or.inl rfl) (.int .i64 (-1)))⟩
  have e : S.drop x = { bk := upd (S.bk) x (-1), nx := upd (upd (S.nx) b (-1)) x (-1), ls := upd (S.ls) x (-1), fb := upd (S.fb) i (b : Int), fn := S.fn, fl := upd (S.fl) i (S.fl i - 1) } := by
    unfold CS.drop
    rw [hb, hf, hs]
    simp
  rw [e]

  exact (((((HC1.out.set_l0 i (b : Int) hi).set_l2 i (S.fl i - 1) hi).set_n0 x (-1) hx).set_n1 x (-1) hx).set_n2 x (-1) hx)

set_option maxHeartbeats 2000000 in
theorem chain_Drop_f (C Nb Lb n l : Nat) (S : CS) (x : Nat) (w : World) (h : ChainAt w C Nb Lb n l S) (hx : x < n) (i : Nat) (hs : S.ls x = (i : Int)) (hi : i < l) (hb : S.bk x = -1) (f : Nat) (hf : S.nx x = (f : Int)) (hfn : f < n) (hl : -1048576 ≤ S.fl i ∧ S.fl i ≤ 1048576) :
    Calls Try.prog 21 #[.pointer (some ⟨C, 0, none⟩), .int .i64 x] w fun e w' => e = .returned (.bool true) ∧ ChainAt w' C Nb Lb n l (S.drop x) ∧ Off Nb Lb w w' := by
  have c1 := fun W => chain_Of_yes C Nb Lb n l S x W
  rw [hs] at c1
  have C1 := Lib.hid c1
  have H := Lib.hid h
  have k0 := h.c0
  have x0 := h.n0 x hx
  have x1 := h.n1 x hx
  have x2 := h.n2 x hx
  rw [hs] at x2
  rw [hb] at x0
  rw [hf] at x1
  have h0 : (0 : Int) ≤ (x : Int) := by omega
  have h1 : (x : Int) < (n : Int) := by omega
  have h2 : (0 : Int) ≤ (i : Int) := by omega
  have h3 : (i : Int) < (l : Int) := by omega
  have q1 := h.hN
  have q2 := h.hL
  clear c1 h
  go_enter Try.func21, Try.ntmps21
  go_wp2_with fail
  refine (C1.out _ H.out hx).mono ?_
  rintro e w1 ⟨rfl, rfl⟩
  go_wp2_with fail
  refine region_name ?_
  intro W hW
  have hc0 : ChainAt W C Nb Lb n l S := by rw [hW]; exact H.out.keep (bel_alloc (Below.refl _ _) _)
  have ho0 : Off Nb Lb w W := by rw [hW]; exact (Off.refl Nb Lb w).alloc _
  obtain ⟨X, hX⟩ : ∃ X, w.heap.size = X := ⟨_, rfl⟩
  have X0 : W.cell? ⟨X, 0, none⟩ = some (.int .i64 (-1)) := by rw [hW, ← hX]; simp [go_sem]
  have X1 : W.cell? ⟨X, 1, none⟩ = some (.int .i64 (f : Int)) := by rw [hW, ← hX]; simp [go_sem]
  have X2 : W.cell? ⟨X, 2, none⟩ = some (.int .i64 i) := by rw [hW, ← hX]; simp [go_sem]
  have aX1 : X ≠ Nb := by omega
  have aX2 : X ≠ Lb := by omega
  have aNL := hc0.aNL
  have aCN := hc0.aCN
  have aCL := hc0.aCL
  have aX3 : X < W.heap.size := by rw [hW, ← hX]; simp
  rw [hX]
  have HC0 := Lib.hid hc0
  have HO0 := Lib.hid ho0
  clear hW k0 x0 x1 x2 q1 q2 hX C1 hc0 ho0
  have g2 : (0 : Int) ≤ (f : Int) := by omega
  have g3 : (f : Int) < (n : Int) := by omega
  have k0 := HC0.out.c0
  have k1 := HC0.out.c1
  have f1 := HC0.out.fzn
  have f2 := HC0.out.fzl
  obtain ⟨vn0x, cn0x⟩ : ∃ v, W.cell? ⟨Nb, x * 3, none⟩ = some (.int .i64 v) := ⟨_, HC0.out.n0 x hx⟩
  obtain ⟨vn1x, cn1x⟩ : ∃ v, W.cell? ⟨Nb, x * 3 + 1, none⟩ = some (.int .i64 v) := ⟨_, HC0.out.n1 x hx⟩
  obtain ⟨vn2x, cn2x⟩ : ∃ v, W.cell? ⟨Nb, x * 3 + 2, none⟩ = some (.int .i64 v) := ⟨_, HC0.out.n2 x hx⟩
  obtain ⟨vl0i, cl0i⟩ : ∃ v, W.cell? ⟨Lb, i * 3, none⟩ = some (.int .i64 v) := ⟨_, HC0.out.l0 i hi⟩
  obtain ⟨vl1i, cl1i⟩ : ∃ v, W.cell? ⟨Lb, i * 3 + 1, none⟩ = some (.int .i64 v) := ⟨_, HC0.out.l1 i hi⟩
  obtain ⟨vn0f, cn0f⟩ : ∃ v, W.cell? ⟨Nb, f * 3, none⟩ = some (.int .i64 v) := ⟨_, HC0.out.n0 f hfn⟩
  have cl2 := HC0.out.l2 i hi
  try dsimp only at cl2
  go_region
  go_wp2_with fail
  refine region_name ?_
  intro W1 hW1
  have hc1 : ChainAt W1 C Nb Lb n l { bk := S.bk, nx := S.nx, ls := S.ls, fb := S.fb, fn := upd (S.fn) i (f : Int), fl := S.fl } := by
    rw [hW1]
    repeat (refine ChainAt.drew ?_)
    exact (HC0.out.set_l1 i (f : Int) hi)
  have ho1 : Off Nb Lb w W1 := by
    rw [hW1]
    repeat (refine Off.drew ?_)
    exact (HO0.out.set (p := ⟨Lb, i * 3 + 1, none⟩) (Or.inr rfl) (.int .i64 (f : Int)))
  have hd1 : Off Nb Lb W W1 := by
    rw [hW1]
    repeat (refine Off.drew ?_)
    exact ((Off.refl Nb Lb W).set (p := ⟨Lb, i * 3 + 1, none⟩) (Or.inr rfl) (.int .i64 (f : Int)))
  have X0 := (hd1.cell (a := ⟨X, 0, none⟩) aX1 aX2 aX3).trans X0
  have X1 := (hd1.cell (a := ⟨X, 1, none⟩) aX1 aX2 aX3).trans X1
  have X2 := (hd1.cell (a := ⟨X, 2, none⟩) aX1 aX2 aX3).trans X2
  have aX3 := Nat.lt_of_lt_of_le aX3 hd1.size
  have HC1 := Lib.hid hc1
  have HO1 := Lib.hid ho1
  clear hW1 hc1 ho1 hd1 k0 k1 f1 f2 cn0x cn1x cn2x cl0i cl1i cn0f cl2
  have k0 := HC1.out.c0
  have k1 := HC1.out.c1
  have f1 := HC1.out.fzn
  have f2 := HC1.out.fzl
  obtain ⟨vn0x, cn0x⟩ : ∃ v, W1.cell? ⟨Nb, x * 3, none⟩ = some (.int .i64 v) := ⟨_, HC1.out.n0 x hx⟩
  obtain ⟨vn1x, cn1x⟩ : ∃ v, W1.cell? ⟨Nb, x * 3 + 1, none⟩ = some (.int .i64 v) := ⟨_, HC1.out.n1 x hx⟩
  obtain ⟨vn2x, cn2x⟩ : ∃ v, W1.cell? ⟨Nb, x * 3 + 2, none⟩ = some (.int .i64 v) := ⟨_, HC1.out.n2 x hx⟩
  obtain ⟨vl0i, cl0i⟩ : ∃ v, W1.cell? ⟨Lb, i * 3, none⟩ = some (.int .i64 v) := ⟨_, HC1.out.l0 i hi⟩
  obtain ⟨vl1i, cl1i⟩ : ∃ v, W1.cell? ⟨Lb, i * 3 + 1, none⟩ = some (.int .i64 v) := ⟨_, HC1.out.l1 i hi⟩
  obtain ⟨vn0f, cn0f⟩ : ∃ v, W1.cell? ⟨Nb, f * 3, none⟩ = some (.int .i64 v) := ⟨_, HC1.out.n0 f hfn⟩
  have cl2 := HC1.out.l2 i hi
  try dsimp only at cl2
  go_region
  refine post_name ?_
  intro W2 hW2
  have hc2 : ChainAt W2 C Nb Lb n l { bk := upd (S.bk) f (-1), nx := S.nx, ls := S.ls, fb := S.fb, fn := upd (S.fn) i (f : Int), fl := S.fl } := by
    rw [hW2]
    repeat (refine ChainAt.drew ?_)
    exact (HC1.out.set_n0 f (-1) hfn)
  have ho2 : Off Nb Lb w W2 := by
    rw [hW2]
    repeat (refine Off.drew ?_)
    exact (HO1.out.set (p := ⟨Nb, f * 3, none⟩) (Or.inl rfl) (.int .i64 (-1)))
  have hd2 : Off Nb Lb W1 W2 := by
    rw [hW2]
    repeat (refine Off.drew ?_)
    exact ((Off.refl Nb Lb W1).set (p := ⟨Nb, f * 3, none⟩) (Or.inl rfl) (.int .i64 (-1)))
  have X0 := (hd2.cell (a := ⟨X, 0, none⟩) aX1 aX2 aX3).trans X0
  have X1 := (hd2.cell (a := ⟨X, 1, none⟩) aX1 aX2 aX3).trans X1
  have X2 := (hd2.cell (a := ⟨X, 2, none⟩) aX1 aX2 aX3).trans X2
  have aX3 := Nat.lt_of_lt_of_le aX3 hd2.size
  have HC2 := Lib.hid hc2
  have HO2 := Lib.hid ho2
  clear hW2 hc2 ho2 hd2 k0 k1 f1 f2 cn0x cn1x cn2x cl0i cl1i cn0f cl2
  have k0 := HC2.out.c0
  have k1 := HC2.out.c1
  have f1 := HC2.out.fzn
  have f2 := HC2.out.fzl
  obtain ⟨vn0x, cn0x⟩ : ∃ v, W2.cell? ⟨Nb, x * 3, none⟩ = some (.int .i64 v) := ⟨_, HC2.out.n0 x hx⟩
  obtain ⟨vn1x, cn1x⟩ : ∃ v, W2.cell? ⟨Nb, x * 3 + 1, none⟩ = some (.int .i64 v) := ⟨_, HC2.out.n1 x hx⟩
  obtain ⟨vn2x, cn2x⟩ : ∃ v, W2.cell? ⟨Nb, x * 3 + 2, none⟩ = some (.int .i64 v) := ⟨_, HC2.out.n2 x hx⟩
  obtain ⟨vl0i, cl0i⟩ : ∃ v, W2.cell? ⟨Lb, i * 3, none⟩ = some (.int .i64 v) := ⟨_, HC2.out.l0 i hi⟩
  obtain ⟨vl1i, cl1i⟩ : ∃ v, W2.cell? ⟨Lb, i * 3 + 1, none⟩ = some (.int .i64 v) := ⟨_, HC2.out.l1 i hi⟩
  obtain ⟨vn0f, cn0f⟩ : ∃ v, W2.cell? ⟨Nb, f * 3, none⟩ = some (.int .i64 v) := ⟨_, HC2.out.n0 f hfn⟩
  have cl2 := HC2.out.l2 i hi
  try dsimp only at cl2
  go_wp2_with fail
  go_ret
  refine ⟨rfl, ?_, ((((HO2.out.set (p := ⟨Lb, i * 3 + 2, none⟩) (Or.inr rfl) (.int .i64 (S.fl i - 1))).set (p := ⟨Nb, x * 3, none⟩) (Or.inl rfl) (.int .i64 (-1))).set (p := ⟨Nb, x * 3 + 1, none⟩) (Or.inl rfl) (.int .i64 (-1))).set (p := ⟨Nb, x * 3 + 2, none⟩) (Or.inl rfl) (.int .i64 (-1)))⟩
  have e : S.drop x = { bk := upd (upd (S.bk) f (-1)) x (-1), nx := upd (S.nx) x (-1), ls := upd (S.ls) x (-1), fb := S.fb, fn := upd (S.fn) i (f : Int), fl := upd (S.fl) i (S.fl i - 1) } := by
    unfold CS.drop
    rw [hb, hf, hs]
    simp
  rw [e]

  exact ((((HC2.out.set_l2 i (S.fl i - 1) hi).set_n0 x (-1) hx).set_n1 x (-1) hx).set_n2 x (-1) hx)

end Go.Proofs.Ytdhcmnbajkpjiaa
