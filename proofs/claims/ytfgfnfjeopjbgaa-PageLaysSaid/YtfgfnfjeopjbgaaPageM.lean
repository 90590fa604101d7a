/-
  Layer 39 (page): the walk of PageLays.
-/
import Derived.Test.YtfgfnfjeopjbgaaPageL
namespace Go.Proofs.Ytfgfnfjeopjbgaa
open Go.RowKit
set_option linter.unusedVariables false
set_option linter.unusedSimpArgs false
attribute [local go_sem] drewN_alloc drewN_setCell

theorem own_emptyI (w : World) : OwnI w.heap.size (w.alloc (.cells #[] 3)) (.slice (some ⟨w.heap.size, 0, none⟩) 0 0) [] := own_emptyS 1 w 3
theorem same_refl {A B : Option Addr} {n m : Nat} {xs : List Int} (c d : Nat) {w : World} (hx : IntsAt w A n xs) (hy : IntsAt w B m xs) :
    Calls Try.prog 62 #[.slice A n c, .slice B m d] w fun e w' => e = .returned (.bool true) ∧ Below w.heap.size w w' := by
  have K := base_SameInts c d hx hy
  rwa [decide_eq_true (rfl : xs = xs)] at K
theorem law39_PageLays_big (A : Option Addr) (n c : Nat) (cur n0 n1 n2 i : Int) (w : World) (hn : 40 < n) :
    Calls Try.prog 13 #[.agg #[.slice A n c, .int .i64 cur], .agg #[.int .i64 n0, .int .i64 n1, .int .i64 n2], .int .i64 i] w fun e w' => e = .returned (.bool true) ∧ Below w.heap.size w w' := by
  have K := law39_works
  replace K := Lib.hid K
  have hn' : (40 : Int) < (n : Int) := by omega
  go_enter Try.func13, Try.ntmps13
  go_wp2_with fail
  refine (K.out _).mono ?_
  rintro e w1 ⟨rfl, h1⟩
  go_wp2_with fail
  exact bodyPost_ret (v := .bool true) (by simp [results, Try.results13, go_sem]) rfl ⟨rfl, (by repeat (first | exact Below.refl _ _ | assumption | refine bel_drew ?_ | refine bel_drewN ?_ _ | refine bel_alloc ?_ _ | refine bel_set ?_ (by first | (dsimp only; omega) | (simp; done) | (simp; omega)) _ | refine bel_trans ?_ (by assumption)))⟩

set_option maxRecDepth 100000 in
set_option maxHeartbeats 16000000 in
theorem law39_PageLays_some {A : Option Addr} {n : Nat} {xs : List Int} (c : Nat) (cur n0 n1 n2 i : Int) (w : World) (h : IntsAt w A n xs) (hn : n ≤ 40)
    (bc : -9223372036854775808 ≤ cur ∧ cur ≤ 9223372036854775807) (b0 : -9223372036854775808 ≤ n0 ∧ n0 ≤ 9223372036854775807) (b1 : -9223372036854775808 ≤ n1 ∧ n1 ≤ 9223372036854775807) (b2 : -9223372036854775808 ≤ n2 ∧ n2 ≤ 9223372036854775807) :
    Calls Try.prog 13 #[.agg #[.slice A n c, .int .i64 cur], .agg #[.int .i64 n0, .int .i64 n1, .int .i64 n2], .int .i64 i] w fun e w' => e = .returned (.bool true) ∧ Below w.heap.size w w' := by
  obtain ⟨v0, hw0⟩ : ∃ v0, ((w.alloc (.cells #[.slice A n c, .int .i64 cur] 53)).alloc (.cells #[.int .i64 n0, .int .i64 n1, .int .i64 n2] 61)).alloc (.cells #[.slice A n c, .int .i64 cur] 62) = v0 := ⟨_, rfl⟩
  obtain ⟨bs, hbs⟩ : ∃ bs, w.heap.size = bs := ⟨_, rfl⟩
  have hB0 : Below w.heap.size w v0 := by rw [← hw0]; exact (by repeat (first | exact Below.refl _ _ | assumption | refine bel_drew ?_ | refine bel_drewN ?_ _ | refine bel_alloc ?_ _ | refine bel_set ?_ (by first | (dsimp only; omega) | (simp; done) | (simp; omega)) _ | refine bel_trans ?_ (by assumption)))
  have H0 : Hid (∀ w', Below v0.heap.size v0 w' → w'.cell? ⟨bs, 0, none⟩ = some (.slice A n c) ∧ w'.cell? ⟨bs, 1, none⟩ = some (.int .i64 cur) ∧ w'.cell? ⟨bs + 1, 0, none⟩ = some (.int .i64 n0) ∧ w'.cell? ⟨bs + 1, 1, none⟩ = some (.int .i64 n1) ∧ w'.cell? ⟨bs + 1, 2, none⟩ = some (.int .i64 n2) ∧ w'.cell? ⟨bs + 1 + 1, 0, none⟩ = some (.slice A n c) ∧ w'.cell? ⟨bs + 1 + 1, 1, none⟩ = some (.int .i64 cur)) := Lib.hid (fun w' hb => by
    have hs : bs + 1 + 1 < v0.heap.size := by rw [← hw0, ← hbs]; simp
    refine ⟨cell_after hb (by dsimp only; omega) ?_, cell_after hb (by dsimp only; omega) ?_, cell_after hb (by dsimp only; omega) ?_, cell_after hb (by dsimp only; omega) ?_, cell_after hb (by dsimp only; omega) ?_, cell_after hb (by dsimp only; omega) ?_, cell_after hb (by dsimp only; omega) ?_⟩ <;> (rw [← hw0, ← hbs]; simp [go_sem]))
  have h0 := h.keep hB0
  have hn1 : n ≤ 1000 := by omega
  have hn2 : n ≤ 100000 := by omega
  have HL : Hid (xs.length = n) := Lib.hid h.1
  have IA : Hid (∀ W, Below v0.heap.size v0 W → IntsAt W A n xs) := Lib.hid (fun W hW => h0.keep hW)
  have K1 := page_Lay c cur n0 n1 n2 h0 hn2 bc b0 b1 b2
  have K2 : Hid (∀ W, Below v0.heap.size v0 W → Calls Try.prog 56 #[.agg #[.slice A n c, .int .i64 cur], .int .i64 n0, .int .i64 n1, .int .i64 n2] W (GivesLay W (PG.lay xs cur n0 n1 n2))) := Lib.hid (fun W hW => ref39_Lay c cur n0 n1 n2 (h0.keep hW) hn2 bc b0 b1 b2)
  have K3 : Hid (∀ W, Below v0.heap.size v0 W → Calls Try.prog 48 #[.agg #[.slice A n c, .int .i64 cur], .int .i64 i] W (GivesAdd W (PG.add xs cur i))) := Lib.hid (fun W hW => page_Add c cur i (h0.keep hW) hn2)
  have K4 : Hid (∀ W, Below v0.heap.size v0 W → Calls Try.prog 57 #[.agg #[.slice A n c, .int .i64 cur], .int .i64 i] W (GivesAdd W (PG.add xs cur i))) := Lib.hid (fun W hW => ref39_Add c cur i (h0.keep hW) hn2)
  have K5 : Hid (∀ W, Below v0.heap.size v0 W → Calls Try.prog 49 #[.agg #[.slice A n c, .int .i64 cur]] W fun e w' => e = .returned (.bool (PG.right xs cur)) ∧ Below W.heap.size W w') := Lib.hid (fun W hW => page_Right c cur (h0.keep hW) hn2)
  have K6 : Hid (∀ W, Below v0.heap.size v0 W → Calls Try.prog 58 #[.agg #[.slice A n c, .int .i64 cur]] W fun e w' => e = .returned (.bool (PG.right xs cur)) ∧ Below W.heap.size W w') := Lib.hid (fun W hW => ref39_Right c cur (h0.keep hW))
  have K7 : Hid (∀ W, Below v0.heap.size v0 W → Calls Try.prog 59 #[.agg #[.slice A n c, .int .i64 cur]] W fun e w' => e = .returned (.int .i64 (PG.last xs cur)) ∧ Below W.heap.size W w') := Lib.hid (fun W hW => page_Last c cur (h0.keep hW) hn2)
  have K8 : Hid (∀ W, Below v0.heap.size v0 W → Calls Try.prog 60 #[.agg #[.slice A n c, .int .i64 cur]] W fun e w' => e = .returned (.int .i64 (PG.last xs cur)) ∧ Below W.heap.size W w') := Lib.hid (fun W hW => ref39_Last c cur (h0.keep hW))
  obtain ⟨zz, hzz⟩ : ∃ z, xs ++ xs = z := ⟨_, rfl⟩
  have HZ := Lib.hid hzz
  clear hzz
  generalize PG.lay xs cur n0 n1 n2 = L at *
  obtain ⟨l1, l2, l3, l4, l5⟩ := L
  generalize PG.add xs cur i = Y at *
  obtain ⟨x1, x2⟩ := Y
  generalize PG.right xs cur = rr at *
  generalize PG.last xs cur = la at *
  have hn' : decide ((40 : Int) < (n : Int)) = false := by simp; omega
  replace hw0 := Lib.hid hw0
  have HBS := Lib.hid hbs
  have HB0 : Hid (Below v0.heap.size v0 v0) := Lib.hid (Below.refl _ _)
  have HW0 := Lib.hid hB0
  replace K1 := Lib.hid K1
  clear h h0 hB0 hbs bc b0 b1 b2
  go_enter Try.func13, Try.ntmps13
  go_wp2_with fail
  rw [hw0.out, HBS.out]
  refine K1.out.mono ?_
  rintro e w1 ⟨A1, m1, c1, rfl, i1, h1⟩
  replace i1 := Lib.hid i1
  have hv1 := h1
  have g1_0_0 := fun ob => (H0.out _ (bel_alloc hv1 ob)).1
  have g1_0_1 := fun ob => (H0.out _ (bel_alloc hv1 ob)).2.1
  have g1_0_2 := fun ob => (H0.out _ (bel_alloc hv1 ob)).2.2.1
  have g1_0_3 := fun ob => (H0.out _ (bel_alloc hv1 ob)).2.2.2.1
  have g1_0_4 := fun ob => (H0.out _ (bel_alloc hv1 ob)).2.2.2.2.1
  have g1_0_5 := fun ob => (H0.out _ (bel_alloc hv1 ob)).2.2.2.2.2.1
  have g1_0_6 := fun ob => (H0.out _ (bel_alloc hv1 ob)).2.2.2.2.2.2
  go_wp2_with fail
  obtain ⟨v1, e1⟩ : ∃ v, w1.alloc (.cells #[.slice A1 m1 c1, .int .i64 l2] 53) = v := ⟨_, rfl⟩
  rw [e1]
  have HB1 : Hid (Below v0.heap.size v0 v1) := Lib.hid (by rw [← e1]; exact bel_alloc hv1 _)
  have J1 : Hid (Below w1.heap.size w1 v1) := Lib.hid (by rw [← e1]; exact bel_alloc (Below.refl _ _) _)
  have HB1_1 : Hid (Below v1.heap.size v1 v1) := Lib.hid (Below.refl _ _)
  have H1 : Hid (∀ w', Below v1.heap.size v1 w' → w'.cell? ⟨w1.heap.size, 0, none⟩ = some (.slice A1 m1 c1) ∧ w'.cell? ⟨w1.heap.size, 1, none⟩ = some (.int .i64 l2)) := Lib.hid (fun w' hb => ⟨cell_after hb (by rw [← e1]; simp) (by rw [← e1]; simp [go_sem]), cell_after hb (by rw [← e1]; simp) (by rw [← e1]; simp [go_sem])⟩)
  clear g1_0_0 g1_0_1 g1_0_2 g1_0_3 g1_0_4 g1_0_5 g1_0_6 hv1 e1
  replace h1 := Lib.hid h1
  refine (K2.out _ HB1.out).mono ?_
  rintro e w2 ⟨A2, m2, c2, rfl, i2, h2⟩
  replace i2 := Lib.hid i2
  have hv2 := bel_trans HB1.out h2
  have g2_0_0 := fun ob => (H0.out _ (bel_alloc hv2 ob)).1
  have g2_0_1 := fun ob => (H0.out _ (bel_alloc hv2 ob)).2.1
  have g2_0_2 := fun ob => (H0.out _ (bel_alloc hv2 ob)).2.2.1
  have g2_0_3 := fun ob => (H0.out _ (bel_alloc hv2 ob)).2.2.2.1
  have g2_0_4 := fun ob => (H0.out _ (bel_alloc hv2 ob)).2.2.2.2.1
  have g2_0_5 := fun ob => (H0.out _ (bel_alloc hv2 ob)).2.2.2.2.2.1
  have g2_0_6 := fun ob => (H0.out _ (bel_alloc hv2 ob)).2.2.2.2.2.2
  have g2_1_0 := fun ob => (H1.out _ (bel_alloc h2 ob)).1
  have g2_1_1 := fun ob => (H1.out _ (bel_alloc h2 ob)).2
  go_wp2_with fail
  obtain ⟨v2, e2⟩ : ∃ v, w2.alloc (.cells #[.slice A2 m2 c2, .int .i64 l2] 62) = v := ⟨_, rfl⟩
  rw [e2]
  have HB2 : Hid (Below v0.heap.size v0 v2) := Lib.hid (by rw [← e2]; exact bel_alloc hv2 _)
  have J2 : Hid (Below w2.heap.size w2 v2) := Lib.hid (by rw [← e2]; exact bel_alloc (Below.refl _ _) _)
  have HB1_2 : Hid (Below v1.heap.size v1 v2) := Lib.hid (bel_trans h2 J2.out)
  have HB2_2 : Hid (Below v2.heap.size v2 v2) := Lib.hid (Below.refl _ _)
  have H2 : Hid (∀ w', Below v2.heap.size v2 w' → w'.cell? ⟨w2.heap.size, 0, none⟩ = some (.slice A2 m2 c2) ∧ w'.cell? ⟨w2.heap.size, 1, none⟩ = some (.int .i64 l2)) := Lib.hid (fun w' hb => ⟨cell_after hb (by rw [← e2]; simp) (by rw [← e2]; simp [go_sem]), cell_after hb (by rw [← e2]; simp) (by rw [← e2]; simp [go_sem])⟩)
  clear g2_0_0 g2_0_1 g2_0_2 g2_0_3 g2_0_4 g2_0_5 g2_0_6 g2_1_0 g2_1_1 hv2 e2
  replace h2 := Lib.hid h2
  refine (K3.out _ HB2.out).mono ?_
  rintro e w3 ⟨A3, m3, c3, rfl, i3, h3⟩
  replace i3 := Lib.hid i3
  have hv3 := bel_trans HB2.out h3
  have g3_0_0 := fun ob => (H0.out _ (bel_alloc hv3 ob)).1
  have g3_0_1 := fun ob => (H0.out _ (bel_alloc hv3 ob)).2.1
  have g3_0_2 := fun ob => (H0.out _ (bel_alloc hv3 ob)).2.2.1
  have g3_0_3 := fun ob => (H0.out _ (bel_alloc hv3 ob)).2.2.2.1
  have g3_0_4 := fun ob => (H0.out _ (bel_alloc hv3 ob)).2.2.2.2.1
  have g3_0_5 := fun ob => (H0.out _ (bel_alloc hv3 ob)).2.2.2.2.2.1
  have g3_0_6 := fun ob => (H0.out _ (bel_alloc hv3 ob)).2.2.2.2.2.2
  have g3_1_0 := fun ob => (H1.out _ (bel_alloc (bel_trans HB1_2.out h3) ob)).1
  have g3_1_1 := fun ob => (H1.out _ (bel_alloc (bel_trans HB1_2.out h3) ob)).2
  have g3_2_0 := fun ob => (H2.out _ (bel_alloc h3 ob)).1
  have g3_2_1 := fun ob => (H2.out _ (bel_alloc h3 ob)).2
  go_wp2_with fail
  obtain ⟨v3, e3⟩ : ∃ v, w3.alloc (.cells #[.slice A3 m3 c3, .int .i64 0] 53) = v := ⟨_, rfl⟩
  rw [e3]
  have HB3 : Hid (Below v0.heap.size v0 v3) := Lib.hid (by rw [← e3]; exact bel_alloc hv3 _)
  have J3 : Hid (Below w3.heap.size w3 v3) := Lib.hid (by rw [← e3]; exact bel_alloc (Below.refl _ _) _)
  have HB1_3 : Hid (Below v1.heap.size v1 v3) := Lib.hid (bel_trans (bel_trans HB1_2.out h3) J3.out)
  have HB2_3 : Hid (Below v2.heap.size v2 v3) := Lib.hid (bel_trans h3 J3.out)
  have HB3_3 : Hid (Below v3.heap.size v3 v3) := Lib.hid (Below.refl _ _)
  have H3 : Hid (∀ w', Below v3.heap.size v3 w' → w'.cell? ⟨w3.heap.size, 0, none⟩ = some (.slice A3 m3 c3) ∧ w'.cell? ⟨w3.heap.size, 1, none⟩ = some (.int .i64 0)) := Lib.hid (fun w' hb => ⟨cell_after hb (by rw [← e3]; simp) (by rw [← e3]; simp [go_sem]), cell_after hb (by rw [← e3]; simp) (by rw [← e3]; simp [go_sem])⟩)
  clear g3_0_0 g3_0_1 g3_0_2 g3_0_3 g3_0_4 g3_0_5 g3_0_6 g3_1_0 g3_1_1 g3_2_0 g3_2_1 hv3 e3
  replace h3 := Lib.hid h3
  refine (K4.out _ HB3.out).mono ?_
  rintro e w4 ⟨A4, m4, c4, rfl, i4, h4⟩
  replace i4 := Lib.hid i4
  have hv4 := bel_trans HB3.out h4
  have g4_0_0 := fun ob => (H0.out _ (bel_alloc hv4 ob)).1
  have g4_0_1 := fun ob => (H0.out _ (bel_alloc hv4 ob)).2.1
  have g4_0_2 := fun ob => (H0.out _ (bel_alloc hv4 ob)).2.2.1
  have g4_0_3 := fun ob => (H0.out _ (bel_alloc hv4 ob)).2.2.2.1
  have g4_0_4 := fun ob => (H0.out _ (bel_alloc hv4 ob)).2.2.2.2.1
  have g4_0_5 := fun ob => (H0.out _ (bel_alloc hv4 ob)).2.2.2.2.2.1
  have g4_0_6 := fun ob => (H0.out _ (bel_alloc hv4 ob)).2.2.2.2.2.2
  have g4_1_0 := fun ob => (H1.out _ (bel_alloc (bel_trans HB1_3.out h4) ob)).1
  have g4_1_1 := fun ob => (H1.out _ (bel_alloc (bel_trans HB1_3.out h4) ob)).2
  have g4_2_0 := fun ob => (H2.out _ (bel_alloc (bel_trans HB2_3.out h4) ob)).1
  have g4_2_1 := fun ob => (H2.out _ (bel_alloc (bel_trans HB2_3.out h4) ob)).2
  have g4_3_0 := fun ob => (H3.out _ (bel_alloc h4 ob)).1
  have g4_3_1 := fun ob => (H3.out _ (bel_alloc h4 ob)).2
  go_wp2_with fail
  obtain ⟨v4, e4⟩ : ∃ v, w4.alloc (.cells #[.slice A4 m4 c4, .int .i64 0] 62) = v := ⟨_, rfl⟩
  rw [e4]
  have HB4 : Hid (Below v0.heap.size v0 v4) := Lib.hid (by rw [← e4]; exact bel_alloc hv4 _)
  have J4 : Hid (Below w4.heap.size w4 v4) := Lib.hid (by rw [← e4]; exact bel_alloc (Below.refl _ _) _)
  have HB1_4 : Hid (Below v1.heap.size v1 v4) := Lib.hid (bel_trans (bel_trans HB1_3.out h4) J4.out)
  have HB2_4 : Hid (Below v2.heap.size v2 v4) := Lib.hid (bel_trans (bel_trans HB2_3.out h4) J4.out)
  have HB3_4 : Hid (Below v3.heap.size v3 v4) := Lib.hid (bel_trans h4 J4.out)
  have HB4_4 : Hid (Below v4.heap.size v4 v4) := Lib.hid (Below.refl _ _)
  have H4 : Hid (∀ w', Below v4.heap.size v4 w' → w'.cell? ⟨w4.heap.size, 0, none⟩ = some (.slice A4 m4 c4) ∧ w'.cell? ⟨w4.heap.size, 1, none⟩ = some (.int .i64 0)) := Lib.hid (fun w' hb => ⟨cell_after hb (by rw [← e4]; simp) (by rw [← e4]; simp [go_sem]), cell_after hb (by rw [← e4]; simp) (by rw [← e4]; simp [go_sem])⟩)
  clear g4_0_0 g4_0_1 g4_0_2 g4_0_3 g4_0_4 g4_0_5 g4_0_6 g4_1_0 g4_1_1 g4_2_0 g4_2_1 g4_3_0 g4_3_1 hv4 e4
  replace h4 := Lib.hid h4
  have HKS : Hid (∀ w', Below v4.heap.size v4 w' → (fun w' => w'.cell? ⟨bs, 0, none⟩ = some (.slice A n c) ∧ w'.cell? ⟨bs, 1, none⟩ = some (.int .i64 cur) ∧ w'.cell? ⟨bs + 1 + 1, 0, none⟩ = some (.slice A n c) ∧ w'.cell? ⟨bs + 1 + 1, 1, none⟩ = some (.int .i64 cur) ∧ w'.cell? ⟨w1.heap.size, 0, none⟩ = some (.slice A1 m1 c1) ∧ w'.cell? ⟨w1.heap.size, 1, none⟩ = some (.int .i64 l2) ∧ w'.cell? ⟨w2.heap.size, 0, none⟩ = some (.slice A2 m2 c2) ∧ w'.cell? ⟨w2.heap.size, 1, none⟩ = some (.int .i64 l2) ∧ w'.cell? ⟨w3.heap.size, 0, none⟩ = some (.slice A3 m3 c3) ∧ w'.cell? ⟨w3.heap.size, 1, none⟩ = some (.int .i64 0) ∧ w'.cell? ⟨w4.heap.size, 0, none⟩ = some (.slice A4 m4 c4) ∧ w'.cell? ⟨w4.heap.size, 1, none⟩ = some (.int .i64 0)) w') := Lib.hid (fun w' hb => ⟨(H0.out _ (bel_trans HB4.out hb)).1, (H0.out _ (bel_trans HB4.out hb)).2.1, (H0.out _ (bel_trans HB4.out hb)).2.2.2.2.2.1, (H0.out _ (bel_trans HB4.out hb)).2.2.2.2.2.2, (H1.out _ (bel_trans HB1_4.out hb)).1, (H1.out _ (bel_trans HB1_4.out hb)).2, (H2.out _ (bel_trans HB2_4.out hb)).1, (H2.out _ (bel_trans HB2_4.out hb)).2, (H3.out _ (bel_trans HB3_4.out hb)).1, (H3.out _ (bel_trans HB3_4.out hb)).2, (H4.out _ (bel_trans HB4_4.out hb)).1, (H4.out _ (bel_trans HB4_4.out hb)).2⟩)
  have I1 : Hid (∀ W, Below v4.heap.size v4 W → IntsAt W A1 m1 l1) := Lib.hid (fun W hW => (i1.out.keep J1.out).keep (bel_trans HB1_4.out hW))
  have I2 : Hid (∀ W, Below v4.heap.size v4 W → IntsAt W A2 m2 l1) := Lib.hid (fun W hW => (i2.out.keep J2.out).keep (bel_trans HB2_4.out hW))
  have I3 : Hid (∀ W, Below v4.heap.size v4 W → IntsAt W A3 m3 x1) := Lib.hid (fun W hW => (i3.out.keep J3.out).keep (bel_trans HB3_4.out hW))
  have I4 : Hid (∀ W, Below v4.heap.size v4 W → IntsAt W A4 m4 x1) := Lib.hid (fun W hW => (i4.out.keep J4.out).keep (bel_trans HB4_4.out hW))
  refine wp_region_held_drew (S := (fun w' => w'.cell? ⟨bs, 0, none⟩ = some (.slice A n c) ∧ w'.cell? ⟨bs, 1, none⟩ = some (.int .i64 cur) ∧ w'.cell? ⟨bs + 1 + 1, 0, none⟩ = some (.slice A n c) ∧ w'.cell? ⟨bs + 1 + 1, 1, none⟩ = some (.int .i64 cur) ∧ w'.cell? ⟨w1.heap.size, 0, none⟩ = some (.slice A1 m1 c1) ∧ w'.cell? ⟨w1.heap.size, 1, none⟩ = some (.int .i64 l2) ∧ w'.cell? ⟨w2.heap.size, 0, none⟩ = some (.slice A2 m2 c2) ∧ w'.cell? ⟨w2.heap.size, 1, none⟩ = some (.int .i64 l2) ∧ w'.cell? ⟨w3.heap.size, 0, none⟩ = some (.slice A3 m3 c3) ∧ w'.cell? ⟨w3.heap.size, 1, none⟩ = some (.int .i64 0) ∧ w'.cell? ⟨w4.heap.size, 0, none⟩ = some (.slice A4 m4 c4) ∧ w'.cell? ⟨w4.heap.size, 1, none⟩ = some (.int .i64 0))) (by kernel_rfl) ?_ (fun hHeld => ?_)
  focus ((try dsimp only); exact HKS.out _ (by repeat (first | exact Below.refl _ _ | assumption | refine bel_drew ?_ | refine bel_alloc ?_ _ | refine bel_trans ?_ (by assumption))))
  refine tk_yes 0 (v := ?_) rfl (by kernel_rfl) (by kernel_rfl) (by kernel_rfl) (fun _ _ _ h => h) (by kernel_rfl) (by assumption) ?_ ?_; rotate_left; (focus (intro w hSw; (try dsimp only at hSw); go_simp; (first | done | (with_reducible rfl)))); (try simp only [Act.put, List.setIfInBounds_toArray, List.set_cons_zero, List.set_cons_succ])
  refine tk_yes 2 (v := ?_) rfl (by kernel_rfl) (by kernel_rfl) (by kernel_rfl) (fun _ _ _ h => h) (by kernel_rfl) (by assumption) ?_ ?_; rotate_left; (focus (intro w hSw; (try dsimp only at hSw); go_simp; (first | done | (with_reducible rfl)))); (try simp only [Act.put, List.setIfInBounds_toArray, List.set_cons_zero, List.set_cons_succ])
  refine tk_call 1 rfl (by kernel_rfl) (by kernel_rfl) (fun KW hKW => ?_); go_simp; go_at_call 49; refine (K5.out _ (bel_trans HB4.out (by exact (by repeat (first | exact Below.refl _ _ | assumption | refine bel_drew ?_ | refine bel_alloc ?_ _ | refine bel_trans ?_ (by assumption)))))).mono ?_; rintro e u1 ⟨rfl, d1⟩; refine hKW.out _ _ ?_ (fun hHeld => ?_); (focus ((try dsimp only); exact HKS.out _ (by repeat (first | exact Below.refl _ _ | assumption | refine bel_drew ?_ | refine bel_alloc ?_ _ | refine bel_trans ?_ (by assumption))))); clear hKW KW; (try simp only [Act.put, List.setIfInBounds_toArray, List.set_cons_zero, List.set_cons_succ])
  refine tk_call 3 rfl (by kernel_rfl) (by kernel_rfl) (fun KW hKW => ?_); go_simp; go_at_call 58; refine (K6.out _ (bel_trans HB4.out (by exact (by repeat (first | exact Below.refl _ _ | assumption | refine bel_drew ?_ | refine bel_alloc ?_ _ | refine bel_trans ?_ (by assumption)))))).mono ?_; rintro e u3 ⟨rfl, d3⟩; refine hKW.out _ _ ?_ (fun hHeld => ?_); (focus ((try dsimp only); exact HKS.out _ (by repeat (first | exact Below.refl _ _ | assumption | refine bel_drew ?_ | refine bel_alloc ?_ _ | refine bel_trans ?_ (by assumption))))); clear hKW KW; (try simp only [Act.put, List.setIfInBounds_toArray, List.set_cons_zero, List.set_cons_succ])
  refine tk_yes 4 (v := ?_) rfl (by kernel_rfl) (by kernel_rfl) (by kernel_rfl) (fun _ _ _ h => h) (by kernel_rfl) (by assumption) ?_ ?_; rotate_left; (focus (intro w hSw; (try dsimp only at hSw); go_simp; (first | done | (with_reducible rfl)))); (try simp only [Act.put, List.setIfInBounds_toArray, List.set_cons_zero, List.set_cons_succ])
  refine tk_yes 5 (v := ?_) rfl (by kernel_rfl) (by kernel_rfl) (by kernel_rfl) (fun _ _ _ h => h) (by kernel_rfl) (by assumption) ?_ ?_; rotate_left; (focus (intro w hSw; (try dsimp only at hSw); go_simp; (first | done | (with_reducible rfl)))); (try simp only [Act.put, List.setIfInBounds_toArray, List.set_cons_zero, List.set_cons_succ])
  refine tk_yes 6 (v := ?_) rfl (by kernel_rfl) (by kernel_rfl) (by kernel_rfl) (fun _ _ _ h => h) (by kernel_rfl) (by assumption) ?_ ?_; rotate_left; (focus (intro w hSw; (try dsimp only at hSw); go_simp; (first | done | (with_reducible rfl)))); (try simp only [Act.put, List.setIfInBounds_toArray, List.set_cons_zero, List.set_cons_succ])
  refine tk_yes 8 (v := ?_) rfl (by kernel_rfl) (by kernel_rfl) (by kernel_rfl) (fun _ _ _ h => h) (by kernel_rfl) (by assumption) ?_ ?_; rotate_left; (focus (intro w hSw; (try dsimp only at hSw); go_simp; (first | done | (with_reducible rfl)))); (try simp only [Act.put, List.setIfInBounds_toArray, List.set_cons_zero, List.set_cons_succ])
  refine tk_call 7 rfl (by kernel_rfl) (by kernel_rfl) (fun KW hKW => ?_); go_simp; go_at_call 59; refine (K7.out _ (bel_trans HB4.out (by exact (by repeat (first | exact Below.refl _ _ | assumption | refine bel_drew ?_ | refine bel_alloc ?_ _ | refine bel_trans ?_ (by assumption)))))).mono ?_; rintro e u7 ⟨rfl, d7⟩; refine hKW.out _ _ ?_ (fun hHeld => ?_); (focus ((try dsimp only); exact HKS.out _ (by repeat (first | exact Below.refl _ _ | assumption | refine bel_drew ?_ | refine bel_alloc ?_ _ | refine bel_trans ?_ (by assumption))))); clear hKW KW; (try simp only [Act.put, List.setIfInBounds_toArray, List.set_cons_zero, List.set_cons_succ])
  refine tk_call 9 rfl (by kernel_rfl) (by kernel_rfl) (fun KW hKW => ?_); go_simp; go_at_call 60; refine (K8.out _ (bel_trans HB4.out (by exact (by repeat (first | exact Below.refl _ _ | assumption | refine bel_drew ?_ | refine bel_alloc ?_ _ | refine bel_trans ?_ (by assumption)))))).mono ?_; rintro e u9 ⟨rfl, d9⟩; refine hKW.out _ _ ?_ (fun hHeld => ?_); (focus ((try dsimp only); exact HKS.out _ (by repeat (first | exact Below.refl _ _ | assumption | refine bel_drew ?_ | refine bel_alloc ?_ _ | refine bel_trans ?_ (by assumption))))); clear hKW KW; (try simp only [Act.put, List.setIfInBounds_toArray, List.set_cons_zero, List.set_cons_succ])
  refine tk_yes 10 (v := ?_) rfl (by kernel_rfl) (by kernel_rfl) (by kernel_rfl) (fun _ _ _ h => h) (by kernel_rfl) (by assumption) ?_ ?_; rotate_left; (focus (intro w hSw; (try dsimp only at hSw); go_simp; (first | done | (with_reducible rfl)))); (try simp only [Act.put, List.setIfInBounds_toArray, List.set_cons_zero, List.set_cons_succ])
  refine tk_yes 11 (v := ?_) rfl (by kernel_rfl) (by kernel_rfl) (by kernel_rfl) (fun _ _ _ h => h) (by kernel_rfl) (by assumption) ?_ ?_; rotate_left; (focus (intro w hSw; (try dsimp only at hSw); go_simp; (first | done | (with_reducible rfl)))); (try simp only [Act.put, List.setIfInBounds_toArray, List.set_cons_zero, List.set_cons_succ])
  refine tk_yes 12 (v := ?_) rfl (by kernel_rfl) (by kernel_rfl) (by kernel_rfl) (fun _ _ _ h => h) (by kernel_rfl) (by assumption) ?_ ?_; rotate_left; (focus (intro w hSw; (try dsimp only at hSw); go_simp; (first | done | (with_reducible rfl)))); (try simp only [Act.put, List.setIfInBounds_toArray, List.set_cons_zero, List.set_cons_succ])
  refine tk_yes 13 (v := ?_) rfl (by kernel_rfl) (by kernel_rfl) (by kernel_rfl) (fun _ _ _ h => h) (by kernel_rfl) (by assumption) ?_ ?_; rotate_left; (focus (intro w hSw; (try dsimp only at hSw); go_simp; (first | done | (with_reducible rfl)))); (try simp only [Act.put, List.setIfInBounds_toArray, List.set_cons_zero, List.set_cons_succ])
  refine tk_yes 14 (v := ?_) rfl (by kernel_rfl) (by kernel_rfl) (by kernel_rfl) (fun _ _ _ h => h) (by kernel_rfl) (by assumption) ?_ ?_; rotate_left; (focus (intro w hSw; (try dsimp only at hSw); go_simp; (first | done | (with_reducible rfl)))); (try simp only [Act.put, List.setIfInBounds_toArray, List.set_cons_zero, List.set_cons_succ])
  refine tk_call 15 rfl (by kernel_rfl) (by kernel_rfl) (fun KW hKW => ?_); go_simp; go_at_call 61; refine (law39_same _ _ _ (I1.out _ (by repeat (first | exact Below.refl _ _ | assumption | refine bel_drew ?_ | refine bel_alloc ?_ _ | refine bel_trans ?_ (by assumption)))) (I2.out _ (by repeat (first | exact Below.refl _ _ | assumption | refine bel_drew ?_ | refine bel_alloc ?_ _ | refine bel_trans ?_ (by assumption))))).mono ?_; rintro e u15 ⟨rfl, d15⟩; refine hKW.out _ _ ?_ (fun hHeld => ?_); (focus ((try dsimp only); exact HKS.out _ (by repeat (first | exact Below.refl _ _ | assumption | refine bel_drew ?_ | refine bel_alloc ?_ _ | refine bel_trans ?_ (by assumption))))); clear hKW KW; (try simp only [Act.put, List.setIfInBounds_toArray, List.set_cons_zero, List.set_cons_succ])
  refine tk_yes 16 (v := ?_) rfl (by kernel_rfl) (by kernel_rfl) (by kernel_rfl) (fun _ _ _ h => h) (by kernel_rfl) (by assumption) ?_ ?_; rotate_left; (focus (intro w hSw; (try dsimp only at hSw); go_simp; (first | done | (with_reducible rfl)))); (try simp only [Act.put, List.setIfInBounds_toArray, List.set_cons_zero, List.set_cons_succ])
  refine tk_yes 17 (v := ?_) rfl (by kernel_rfl) (by kernel_rfl) (by kernel_rfl) (fun _ _ _ h => h) (by kernel_rfl) (by assumption) ?_ ?_; rotate_left; (focus (intro w hSw; (try dsimp only at hSw); go_simp; (first | done | (with_reducible rfl)))); (try simp only [Act.put, List.setIfInBounds_toArray, List.set_cons_zero, List.set_cons_succ])
  refine tk_yes 18 (v := ?_) rfl (by kernel_rfl) (by kernel_rfl) (by kernel_rfl) (fun _ _ _ h => h) (by kernel_rfl) (by assumption) ?_ ?_; rotate_left; (focus (intro w hSw; (try dsimp only at hSw); go_simp; (first | done | (with_reducible rfl)))); (try simp only [Act.put, List.setIfInBounds_toArray, List.set_cons_zero, List.set_cons_succ])
  refine tk_yes 19 (v := ?_) rfl (by kernel_rfl) (by kernel_rfl) (by kernel_rfl) (fun _ _ _ h => h) (by kernel_rfl) (by assumption) ?_ ?_; rotate_left; (focus (intro w hSw; (try dsimp only at hSw); go_simp; (first | done | (with_reducible rfl)))); (try simp only [Act.put, List.setIfInBounds_toArray, List.set_cons_zero, List.set_cons_succ])
  refine tk_yes 20 (v := ?_) rfl (by kernel_rfl) (by kernel_rfl) (by kernel_rfl) (fun _ _ _ h => h) (by kernel_rfl) (by assumption) ?_ ?_; rotate_left; (focus (intro w hSw; (try dsimp only at hSw); go_simp; (first | done | (with_reducible rfl)))); (try simp only [Act.put, List.setIfInBounds_toArray, List.set_cons_zero, List.set_cons_succ])
  refine tk_yes 21 (v := ?_) rfl (by kernel_rfl) (by kernel_rfl) (by kernel_rfl) (fun _ _ _ h => h) (by kernel_rfl) (by assumption) ?_ ?_; rotate_left; (focus (intro w hSw; (try dsimp only at hSw); go_simp; (first | done | (with_reducible rfl)))); (try simp only [Act.put, List.setIfInBounds_toArray, List.set_cons_zero, List.set_cons_succ])
  refine tk_yes 22 (v := ?_) rfl (by kernel_rfl) (by kernel_rfl) (by kernel_rfl) (fun _ _ _ h => h) (by kernel_rfl) (by assumption) ?_ ?_; rotate_left; (focus (intro w hSw; (try dsimp only at hSw); go_simp; (first | done | (with_reducible rfl)))); (try simp only [Act.put, List.setIfInBounds_toArray, List.set_cons_zero, List.set_cons_succ])
  refine tk_yes 23 (v := ?_) rfl (by kernel_rfl) (by kernel_rfl) (by kernel_rfl) (fun _ _ _ h => h) (by kernel_rfl) (by assumption) ?_ ?_; rotate_left; (focus (intro w hSw; (try dsimp only at hSw); go_simp; (first | done | (with_reducible rfl)))); (try simp only [Act.put, List.setIfInBounds_toArray, List.set_cons_zero, List.set_cons_succ])
  refine tk_yes 24 (v := ?_) rfl (by kernel_rfl) (by kernel_rfl) (by kernel_rfl) (fun _ _ _ h => h) (by kernel_rfl) (by assumption) ?_ ?_; rotate_left; (focus (intro w hSw; (try dsimp only at hSw); go_simp; (first | done | (with_reducible rfl)))); (try simp only [Act.put, List.setIfInBounds_toArray, List.set_cons_zero, List.set_cons_succ])
  refine tk_yes 25 (v := ?_) rfl (by kernel_rfl) (by kernel_rfl) (by kernel_rfl) (fun _ _ _ h => h) (by kernel_rfl) (by assumption) ?_ ?_; rotate_left; (focus (intro w hSw; (try dsimp only at hSw); go_simp; (first | done | (with_reducible rfl)))); (try simp only [Act.put, List.setIfInBounds_toArray, List.set_cons_zero, List.set_cons_succ])
  refine tk_yes 26 (v := ?_) rfl (by kernel_rfl) (by kernel_rfl) (by kernel_rfl) (fun _ _ _ h => h) (by kernel_rfl) (by assumption) ?_ ?_; rotate_left; (focus (intro w hSw; (try dsimp only at hSw); go_simp; (first | done | (with_reducible rfl)))); (try simp only [Act.put, List.setIfInBounds_toArray, List.set_cons_zero, List.set_cons_succ])
  refine tk_yes 27 (v := ?_) rfl (by kernel_rfl) (by kernel_rfl) (by kernel_rfl) (fun _ _ _ h => h) (by kernel_rfl) (by assumption) ?_ ?_; rotate_left; (focus (intro w hSw; (try dsimp only at hSw); go_simp; (first | done | (with_reducible rfl)))); (try simp only [Act.put, List.setIfInBounds_toArray, List.set_cons_zero, List.set_cons_succ])
  refine tk_yes 28 (v := ?_) rfl (by kernel_rfl) (by kernel_rfl) (by kernel_rfl) (fun _ _ _ h => h) (by kernel_rfl) (by assumption) ?_ ?_; rotate_left; (focus (intro w hSw; (try dsimp only at hSw); go_simp; (first | done | (with_reducible rfl)))); (try simp only [Act.put, List.setIfInBounds_toArray, List.set_cons_zero, List.set_cons_succ])
  refine tk_yes 29 (v := ?_) rfl (by kernel_rfl) (by kernel_rfl) (by kernel_rfl) (fun _ _ _ h => h) (by kernel_rfl) (by assumption) ?_ ?_; rotate_left; (focus (intro w hSw; (try dsimp only at hSw); go_simp; (first | done | (with_reducible rfl)))); (try simp only [Act.put, List.setIfInBounds_toArray, List.set_cons_zero, List.set_cons_succ])
  refine tk_yes 30 (v := ?_) rfl (by kernel_rfl) (by kernel_rfl) (by kernel_rfl) (fun _ _ _ h => h) (by kernel_rfl) (by assumption) ?_ ?_; rotate_left; (focus (intro w hSw; (try dsimp only at hSw); go_simp; (first | done | (with_reducible rfl)))); (try simp only [Act.put, List.setIfInBounds_toArray, List.set_cons_zero, List.set_cons_succ])
  refine tk_yes 31 (v := ?_) rfl (by kernel_rfl) (by kernel_rfl) (by kernel_rfl) (fun _ _ _ h => h) (by kernel_rfl) (by assumption) ?_ ?_; rotate_left; (focus (intro w hSw; (try dsimp only at hSw); go_simp; (first | done | (with_reducible rfl)))); (try simp only [Act.put, List.setIfInBounds_toArray, List.set_cons_zero, List.set_cons_succ])
  refine tk_yes 32 (v := ?_) rfl (by kernel_rfl) (by kernel_rfl) (by kernel_rfl) (fun _ _ _ h => h) (by kernel_rfl) (by assumption) ?_ ?_; rotate_left; (focus (intro w hSw; (try dsimp only at hSw); go_simp; (first | done | (with_reducible rfl)))); (try simp only [Act.put, List.setIfInBounds_toArray, List.set_cons_zero, List.set_cons_succ])
  refine tk_yes 33 (v := ?_) rfl (by kernel_rfl) (by kernel_rfl) (by kernel_rfl) (fun _ _ _ h => h) (by kernel_rfl) (by assumption) ?_ ?_; rotate_left; (focus (intro w hSw; (try dsimp only at hSw); go_simp; (first | done | (with_reducible rfl)))); (try simp only [Act.put, List.setIfInBounds_toArray, List.set_cons_zero, List.set_cons_succ])
  refine tk_yes 34 (v := ?_) rfl (by kernel_rfl) (by kernel_rfl) (by kernel_rfl) (fun _ _ _ h => h) (by kernel_rfl) (by assumption) ?_ ?_; rotate_left; (focus (intro w hSw; (try dsimp only at hSw); go_simp; (first | done | (with_reducible rfl)))); (try simp only [Act.put, List.setIfInBounds_toArray, List.set_cons_zero, List.set_cons_succ])
  refine tk_call 35 rfl (by kernel_rfl) (by kernel_rfl) (fun KW hKW => ?_); go_simp; go_at_call 61; refine (law39_same _ _ _ (I3.out _ (by repeat (first | exact Below.refl _ _ | assumption | refine bel_drew ?_ | refine bel_alloc ?_ _ | refine bel_trans ?_ (by assumption)))) (I4.out _ (by repeat (first | exact Below.refl _ _ | assumption | refine bel_drew ?_ | refine bel_alloc ?_ _ | refine bel_trans ?_ (by assumption))))).mono ?_; rintro e u35 ⟨rfl, d35⟩; refine hKW.out _ _ ?_ (fun hHeld => ?_); (focus ((try dsimp only); exact HKS.out _ (by repeat (first | exact Below.refl _ _ | assumption | refine bel_drew ?_ | refine bel_alloc ?_ _ | refine bel_trans ?_ (by assumption))))); clear hKW KW; (try simp only [Act.put, List.setIfInBounds_toArray, List.set_cons_zero, List.set_cons_succ])
  refine tk_yes 36 (v := ?_) rfl (by kernel_rfl) (by kernel_rfl) (by kernel_rfl) (fun _ _ _ h => h) (by kernel_rfl) (by assumption) ?_ ?_; rotate_left; (focus (intro w hSw; (try dsimp only at hSw); go_simp; (first | done | (with_reducible rfl)))); (try simp only [Act.put, List.setIfInBounds_toArray, List.set_cons_zero, List.set_cons_succ])
  refine tk_yes 37 (v := ?_) rfl (by kernel_rfl) (by kernel_rfl) (by kernel_rfl) (fun _ _ _ h => h) (by kernel_rfl) (by assumption) ?_ ?_; rotate_left; (focus (intro w hSw; (try dsimp only at hSw); go_simp; (first | done | (with_reducible rfl)))); (try simp only [Act.put, List.setIfInBounds_toArray, List.set_cons_zero, List.set_cons_succ])
  refine tk_yes 38 (v := ?_) rfl (by kernel_rfl) (by kernel_rfl) (by kernel_rfl) (fun _ _ _ h => h) (by kernel_rfl) (by assumption) ?_ ?_; rotate_left; (focus (intro w hSw; (try dsimp only at hSw); go_simp; (first | done | (with_reducible rfl)))); (try simp only [Act.put, List.setIfInBounds_toArray, List.set_cons_zero, List.set_cons_succ])
  refine tk_yes 39 (v := ?_) rfl (by kernel_rfl) (by kernel_rfl) (by kernel_rfl) (fun _ _ _ h => h) (by kernel_rfl) (by assumption) ?_ ?_; rotate_left; (focus (intro w hSw; (try dsimp only at hSw); go_simp; (first | done | (with_reducible rfl)))); (try simp only [Act.put, List.setIfInBounds_toArray, List.set_cons_zero, List.set_cons_succ])
  refine tk_yes 40 (v := ?_) rfl (by kernel_rfl) (by kernel_rfl) (by kernel_rfl) (fun _ _ _ h => h) (by kernel_rfl) (by assumption) ?_ ?_; rotate_left; (focus (intro w hSw; (try dsimp only at hSw); go_simp; (first | done | (with_reducible rfl)))); (try simp only [Act.put, List.setIfInBounds_toArray, List.set_cons_zero, List.set_cons_succ])
  refine tk_yes 41 (v := ?_) rfl (by kernel_rfl) (by kernel_rfl) (by kernel_rfl) (fun _ _ _ h => h) (by kernel_rfl) (by assumption) ?_ ?_; rotate_left; (focus (intro w hSw; (try dsimp only at hSw); go_simp; (first | done | (with_reducible rfl)))); (try simp only [Act.put, List.setIfInBounds_toArray, List.set_cons_zero, List.set_cons_succ])
  refine tk_yes 42 (v := ?_) rfl (by kernel_rfl) (by kernel_rfl) (by kernel_rfl) (fun _ _ _ h => h) (by kernel_rfl) (by assumption) ?_ ?_; rotate_left; (focus (intro w hSw; (try dsimp only at hSw); go_simp; (first | done | (with_reducible rfl)))); (try simp only [Act.put, List.setIfInBounds_toArray, List.set_cons_zero, List.set_cons_succ])
  refine tk_yes 43 (v := ?_) rfl (by kernel_rfl) (by kernel_rfl) (by kernel_rfl) (fun _ _ _ h => h) (by kernel_rfl) (by assumption) ?_ ?_; rotate_left; (focus (intro w hSw; (try dsimp only at hSw); go_simp; (first | done | (with_reducible rfl)))); (try simp only [Act.put, List.setIfInBounds_toArray, List.set_cons_zero, List.set_cons_succ])
  refine tk_yes 44 (v := ?_) rfl (by kernel_rfl) (by kernel_rfl) (by kernel_rfl) (fun _ _ _ h => h) (by kernel_rfl) (by assumption) ?_ ?_; rotate_left; (focus (intro w hSw; (try dsimp only at hSw); go_simp; (first | done | (with_reducible rfl)))); (try simp only [Act.put, List.setIfInBounds_toArray, List.set_cons_zero, List.set_cons_succ])
  refine tk_yes 48 (v := ?_) rfl (by kernel_rfl) (by kernel_rfl) (by kernel_rfl) (fun _ _ _ h => h) (by kernel_rfl) (by assumption) ?_ ?_; rotate_left; (focus (intro w hSw; (try dsimp only at hSw); go_simp; (first | done | (with_reducible rfl)))); (try simp only [Act.put, List.setIfInBounds_toArray, List.set_cons_zero, List.set_cons_succ])
  refine tk_yes 49 (v := ?_) rfl (by kernel_rfl) (by kernel_rfl) (by kernel_rfl) (fun _ _ _ h => h) (by kernel_rfl) (by assumption) ?_ ?_; rotate_left; (focus (intro w hSw; (try dsimp only at hSw); go_simp; (first | done | (with_reducible rfl)))); (try simp only [Act.put, List.setIfInBounds_toArray, List.set_cons_zero, List.set_cons_succ])
  refine tk_yes 51 (v := ?_) rfl (by kernel_rfl) (by kernel_rfl) (by kernel_rfl) (fun _ _ _ h => h) (by kernel_rfl) (by assumption) ?_ ?_; rotate_left; (focus (intro w hSw; (try dsimp only at hSw); go_simp; (first | done | (with_reducible rfl)))); (try simp only [Act.put, List.setIfInBounds_toArray, List.set_cons_zero, List.set_cons_succ])
  refine tk_yes 52 (v := ?_) rfl (by kernel_rfl) (by kernel_rfl) (by kernel_rfl) (fun _ _ _ h => h) (by kernel_rfl) (by assumption) ?_ ?_; rotate_left; (focus (intro w hSw; (try dsimp only at hSw); go_simp; (first | done | (with_reducible rfl)))); (try simp only [Act.put, List.setIfInBounds_toArray, List.set_cons_zero, List.set_cons_succ])
  have BU : Below v4.heap.size v4 u35 := by repeat (first | exact Below.refl _ _ | assumption | refine bel_drew ?_ | refine bel_alloc ?_ _ | refine bel_trans ?_ (by assumption))
  have su : v4.heap.size ≤ u35.heap.size := BU.size
  clear d1 d3 d7 d9 d15 d35
  refine tk_two 45 47 rfl rfl (by kernel_rfl) (by kernel_rfl) (by kernel_rfl) (fun KW hKW => ?_) (fun KW hKW => ?_)
  · go_simp; refine hKW.out _ _ ?_ (fun hHeld => ?_); (focus ((try dsimp only); exact HKS.out _ (by repeat (first | exact Below.refl _ _ | assumption | refine bel_drew ?_ | refine bel_alloc ?_ _ | refine bel_trans ?_ (by assumption))))); clear hKW KW; (try simp only [Act.put, List.setIfInBounds_toArray, List.set_cons_zero, List.set_cons_succ])
    refine tk_two 46 47 rfl rfl (by kernel_rfl) (by kernel_rfl) (by kernel_rfl) (fun KW hKW => ?_) (fun KW hKW => ?_)
    · go_simp; go_at_call 63; refine (page_Join (A := A) (n := n) (xs := xs) _ c cur (IA.out _ (bel_trans HB4.out (by exact (by repeat (first | exact Below.refl _ _ | assumption | refine bel_drew ?_ | refine bel_alloc ?_ _ | refine bel_trans ?_ (by assumption)))))) hn1 (by first | (simp; done) | (simp; omega)) (by simp [go_sem]) (by simp [go_sem]) (by simp [go_sem]) (by simp [go_sem])).mono ?_; rintro e w46 ⟨vj, rfl, oj, dj⟩; rw [HZ.out] at oj; replace oj := Lib.hid oj; refine hKW.out _ _ ?_ (fun hHeld => ?_); (focus ((try dsimp only); exact HKS.out _ (by repeat (first | exact Below.refl _ _ | assumption | refine bel_drew ?_ | refine bel_alloc ?_ _ | refine bel_trans ?_ (by assumption))))); clear hKW KW; (try simp only [Act.put, List.setIfInBounds_toArray, List.set_cons_zero, List.set_cons_succ])
      refine tk_call 47 rfl (by kernel_rfl) (by kernel_rfl) (fun KW hKW => ?_); go_simp; refine hKW.out _ _ ?_ (fun hHeld => ?_); (focus ((try dsimp only); exact HKS.out _ (by repeat (first | exact Below.refl _ _ | assumption | refine bel_drew ?_ | refine bel_alloc ?_ _ | refine bel_trans ?_ (by assumption))))); clear hKW KW; (try simp only [Act.put, List.setIfInBounds_toArray, List.set_cons_zero, List.set_cons_succ])
      have OE := Lib.hid ((own_emptyI w46).mono (B' := v4.heap.size) (by have := dj.size; simp at this; omega))
      have NE : ∀ k, vj.ownBlock = some k → (Value.slice (some ⟨w46.heap.size, 0, none⟩) 0 0).ownBlock ≠ some k := fun k hk => by have := (oj.out.ltB k hk).2; simp [Value.ownBlock]; omega
      have JO := Lib.hid (oj.out.keep (bel_alloc (Below.refl w46.heap.size w46) (.cells #[] 3)))
      have BW : Below v4.heap.size v4 (w46.alloc (.cells #[] 3)) := (by repeat (first | exact Below.refl _ _ | assumption | refine bel_drew ?_ | refine bel_alloc ?_ _ | refine bel_trans ?_ (by assumption)))
      refine tk_call 50 rfl (by kernel_rfl) (by kernel_rfl) (fun KW hKW => ?_); refine app_operI2 (.tmp 115) (.tmp 117) rfl v4.heap.size _ [] rfl OE.out A n c xs rfl ((IA.out _ (bel_trans HB4.out BW)).srcI) (by simp; omega) BW.size ?_; intro v50 w50 ho50 hb50 hk50 hor50 hs50; have B50 := BW.trans hb50; have JO50 := hk50 _ _ _ JO.out NE; have NE50 : ∀ k, vj.ownBlock = some k → v50.ownBlock ≠ some k := (fun k hk => by (rcases hor50 with e | e <;> rw [e]); exact NE k hk; exact fun e => absurd (Option.some.inj e) (Nat.ne_of_gt (JO.out.ltB k hk).2)); rw [List.nil_append] at ho50; have HO50 := Lib.hid ho50; replace JO50 := Lib.hid JO50; clear hb50 hk50 hor50 ho50; refine hKW.out _ _ ?_ (fun hHeld => ?_); (focus ((try dsimp only); exact HKS.out _ (by repeat (first | exact Below.refl _ _ | assumption | refine bel_drew ?_ | refine bel_alloc ?_ _ | refine bel_trans ?_ (by assumption))))); clear hKW KW; (try simp only [Act.put, List.setIfInBounds_toArray, List.set_cons_zero, List.set_cons_succ])
      refine tk_call 53 rfl (by kernel_rfl) (by kernel_rfl) (fun KW hKW => ?_); refine app_operI2 (.tmp 118) (.tmp 120) rfl v4.heap.size _ xs rfl HO50.out A n c xs rfl ((IA.out _ (bel_trans HB4.out B50)).srcI) (by have := HL.out; omega) B50.size ?_; intro v53 w53 ho53 hb53 hk53 hor53 hs53; rw [HZ.out] at ho53; have B53 := B50.trans hb53; have JO53 := hk53 _ _ _ JO50.out NE50; obtain ⟨Aj, cj, rfl, ij, _⟩ := JO53.ints; obtain ⟨Ae, ce, rfl, ie, _⟩ := ho53.ints; have C54 := same_refl cj ce ij ie; replace C54 := Lib.hid C54; clear hb53 hk53 hor53 ho53 JO53 ij ie NE50; refine hKW.out _ _ ?_ (fun hHeld => ?_); (focus ((try dsimp only); exact HKS.out _ (by repeat (first | exact Below.refl _ _ | assumption | refine bel_drew ?_ | refine bel_alloc ?_ _ | refine bel_trans ?_ (by assumption))))); clear hKW KW; (try simp only [Act.put, List.setIfInBounds_toArray, List.set_cons_zero, List.set_cons_succ])
      refine tk_call 54 rfl (by kernel_rfl) (by kernel_rfl) (fun KW hKW => ?_); go_simp; go_at_call 62; refine C54.out.mono ?_; rintro e w54 ⟨rfl, d54⟩; have B54 := bel_trans B53 d54; refine hKW.out _ _ ?_ (fun hHeld => ?_); (focus ((try dsimp only); exact HKS.out _ (by repeat (first | exact Below.refl _ _ | assumption | refine bel_drew ?_ | refine bel_alloc ?_ _ | refine bel_trans ?_ (by assumption))))); clear hKW KW; (try simp only [Act.put, List.setIfInBounds_toArray, List.set_cons_zero, List.set_cons_succ])
      refine tk_yes 55 (v := ?_) rfl (by kernel_rfl) (by kernel_rfl) (by kernel_rfl) (fun _ _ _ h => h) (by kernel_rfl) (by assumption) ?_ ?_; rotate_left; (focus (intro w hSw; (try dsimp only at hSw); go_simp; (first | done | (with_reducible rfl)))); (try simp only [Act.put, List.setIfInBounds_toArray, List.set_cons_zero, List.set_cons_succ])
      refine tk_yes 56 (v := ?_) rfl (by kernel_rfl) (by kernel_rfl) (by kernel_rfl) (fun _ _ _ h => h) (by kernel_rfl) (by assumption) ?_ ?_; rotate_left; (focus (intro w hSw; (try dsimp only at hSw); go_simp; (first | done | (with_reducible rfl)))); (try simp only [Act.put, List.setIfInBounds_toArray, List.set_cons_zero, List.set_cons_succ])
      refine tk_call 57 rfl (by kernel_rfl) (by kernel_rfl) (fun KW hKW => ?_); go_simp; go_at_call 46; refine (law39_works _).mono ?_; rintro e w57 ⟨rfl, d57⟩; have B57 := bel_trans B54 d57; refine hKW.out _ _ ?_ (fun hHeld => ?_); (focus ((try dsimp only); exact HKS.out _ (by repeat (first | exact Below.refl _ _ | assumption | refine bel_drew ?_ | refine bel_alloc ?_ _ | refine bel_trans ?_ (by assumption))))); clear hKW KW; (try simp only [Act.put, List.setIfInBounds_toArray, List.set_cons_zero, List.set_cons_succ])
      refine tk_yes 58 (v := ?_) rfl (by kernel_rfl) (by kernel_rfl) (by kernel_rfl) (fun _ _ _ h => h) (by kernel_rfl) (by assumption) ?_ ?_; rotate_left; (focus (intro w hSw; (try dsimp only at hSw); go_simp; (first | done | (with_reducible rfl)))); (try simp only [Act.put, List.setIfInBounds_toArray, List.set_cons_zero, List.set_cons_succ])
      refine tk_yes 59 (v := ?_) rfl (by kernel_rfl) (by kernel_rfl) (by kernel_rfl) (fun _ _ _ h => h) (by kernel_rfl) (by assumption) ?_ ?_; rotate_left; (focus (intro w hSw; (try dsimp only at hSw); go_simp; (first | done | (with_reducible rfl)))); (try simp only [Act.put, List.setIfInBounds_toArray, List.set_cons_zero, List.set_cons_succ])
      refine wpAnyH_done (by kernel_rfl) ?_ _
      go_wp2_with fail
      exact bodyPost_ret (v := .bool true) (by simp [results, Try.results13, go_sem]) rfl ⟨rfl, bel_trans' HW0.out (bel_trans HB4.out B57) HW0.out.size⟩
    · go_simp; refine hKW.out _ _ ?_ (fun hHeld => ?_); (focus ((try dsimp only); exact HKS.out _ (by repeat (first | exact Below.refl _ _ | assumption | refine bel_drew ?_ | refine bel_alloc ?_ _ | refine bel_trans ?_ (by assumption))))); clear hKW KW; (try simp only [Act.put, List.setIfInBounds_toArray, List.set_cons_zero, List.set_cons_succ])
      refine tk_call 46 rfl (by kernel_rfl) (by kernel_rfl) (fun KW hKW => ?_); go_simp; go_at_call 63; refine (page_Join (A := A) (n := n) (xs := xs) _ c cur (IA.out _ (bel_trans HB4.out (by exact (by repeat (first | exact Below.refl _ _ | assumption | refine bel_drew ?_ | refine bel_alloc ?_ _ | refine bel_trans ?_ (by assumption)))))) hn1 (by first | (simp; done) | (simp; omega)) (by simp [go_sem]) (by simp [go_sem]) (by simp [go_sem]) (by simp [go_sem])).mono ?_; rintro e w46 ⟨vj, rfl, oj, dj⟩; rw [HZ.out] at oj; replace oj := Lib.hid oj; refine hKW.out _ _ ?_ (fun hHeld => ?_); (focus ((try dsimp only); exact HKS.out _ (by repeat (first | exact Below.refl _ _ | assumption | refine bel_drew ?_ | refine bel_alloc ?_ _ | refine bel_trans ?_ (by assumption))))); clear hKW KW; (try simp only [Act.put, List.setIfInBounds_toArray, List.set_cons_zero, List.set_cons_succ])
      have se : (u35.alloc (.cells #[.slice A n c, .int .i64 cur, .slice A n c, .int .i64 cur] 53)).heap.size = u35.heap.size + 1 := by simp
      have OE0 := own_emptyI (u35.alloc (.cells #[.slice A n c, .int .i64 cur, .slice A n c, .int .i64 cur] 53))
      rw [se] at OE0
      have OE := Lib.hid ((OE0.keep dj).mono (B' := v4.heap.size) (by omega))
      clear OE0 se
      have NE : ∀ k, vj.ownBlock = some k → (Value.slice (some ⟨u35.heap.size + 1, 0, none⟩) 0 0).ownBlock ≠ some k := fun k hk => by have := (oj.out.ltB k hk).1; simp at this; simp [Value.ownBlock]; omega
      have JO := oj
      have BW : Below v4.heap.size v4 w46 := (by repeat (first | exact Below.refl _ _ | assumption | refine bel_drew ?_ | refine bel_alloc ?_ _ | refine bel_trans ?_ (by assumption)))
      refine tk_call 50 rfl (by kernel_rfl) (by kernel_rfl) (fun KW hKW => ?_); refine app_operI2 (.tmp 115) (.tmp 117) rfl v4.heap.size _ [] rfl OE.out A n c xs rfl ((IA.out _ (bel_trans HB4.out BW)).srcI) (by simp; omega) BW.size ?_; intro v50 w50 ho50 hb50 hk50 hor50 hs50; have B50 := BW.trans hb50; have JO50 := hk50 _ _ _ JO.out NE; have NE50 : ∀ k, vj.ownBlock = some k → v50.ownBlock ≠ some k := (fun k hk => by (rcases hor50 with e | e <;> rw [e]); exact NE k hk; exact fun e => absurd (Option.some.inj e) (Nat.ne_of_gt (JO.out.ltB k hk).2)); rw [List.nil_append] at ho50; have HO50 := Lib.hid ho50; replace JO50 := Lib.hid JO50; clear hb50 hk50 hor50 ho50; refine hKW.out _ _ ?_ (fun hHeld => ?_); (focus ((try dsimp only); exact HKS.out _ (by repeat (first | exact Below.refl _ _ | assumption | refine bel_drew ?_ | refine bel_alloc ?_ _ | refine bel_trans ?_ (by assumption))))); clear hKW KW; (try simp only [Act.put, List.setIfInBounds_toArray, List.set_cons_zero, List.set_cons_succ])
      refine tk_call 53 rfl (by kernel_rfl) (by kernel_rfl) (fun KW hKW => ?_); refine app_operI2 (.tmp 118) (.tmp 120) rfl v4.heap.size _ xs rfl HO50.out A n c xs rfl ((IA.out _ (bel_trans HB4.out B50)).srcI) (by have := HL.out; omega) B50.size ?_; intro v53 w53 ho53 hb53 hk53 hor53 hs53; rw [HZ.out] at ho53; have B53 := B50.trans hb53; have JO53 := hk53 _ _ _ JO50.out NE50; obtain ⟨Aj, cj, rfl, ij, _⟩ := JO53.ints; obtain ⟨Ae, ce, rfl, ie, _⟩ := ho53.ints; have C54 := same_refl cj ce ij ie; replace C54 := Lib.hid C54; clear hb53 hk53 hor53 ho53 JO53 ij ie NE50; refine hKW.out _ _ ?_ (fun hHeld => ?_); (focus ((try dsimp only); exact HKS.out _ (by repeat (first | exact Below.refl _ _ | assumption | refine bel_drew ?_ | refine bel_alloc ?_ _ | refine bel_trans ?_ (by assumption))))); clear hKW KW; (try simp only [Act.put, List.setIfInBounds_toArray, List.set_cons_zero, List.set_cons_succ])
      refine tk_call 54 rfl (by kernel_rfl) (by kernel_rfl) (fun KW hKW => ?_); go_simp; go_at_call 62; refine C54.out.mono ?_; rintro e w54 ⟨rfl, d54⟩; have B54 := bel_trans B53 d54; refine hKW.out _ _ ?_ (fun hHeld => ?_); (focus ((try dsimp only); exact HKS.out _ (by repeat (first | exact Below.refl _ _ | assumption | refine bel_drew ?_ | refine bel_alloc ?_ _ | refine bel_trans ?_ (by assumption))))); clear hKW KW; (try simp only [Act.put, List.setIfInBounds_toArray, List.set_cons_zero, List.set_cons_succ])
      refine tk_yes 55 (v := ?_) rfl (by kernel_rfl) (by kernel_rfl) (by kernel_rfl) (fun _ _ _ h => h) (by kernel_rfl) (by assumption) ?_ ?_; rotate_left; (focus (intro w hSw; (try dsimp only at hSw); go_simp; (first | done | (with_reducible rfl)))); (try simp only [Act.put, List.setIfInBounds_toArray, List.set_cons_zero, List.set_cons_succ])
      refine tk_yes 56 (v := ?_) rfl (by kernel_rfl) (by kernel_rfl) (by kernel_rfl) (fun _ _ _ h => h) (by kernel_rfl) (by assumption) ?_ ?_; rotate_left; (focus (intro w hSw; (try dsimp only at hSw); go_simp; (first | done | (with_reducible rfl)))); (try simp only [Act.put, List.setIfInBounds_toArray, List.set_cons_zero, List.set_cons_succ])
      refine tk_call 57 rfl (by kernel_rfl) (by kernel_rfl) (fun KW hKW => ?_); go_simp; go_at_call 46; refine (law39_works _).mono ?_; rintro e w57 ⟨rfl, d57⟩; have B57 := bel_trans B54 d57; refine hKW.out _ _ ?_ (fun hHeld => ?_); (focus ((try dsimp only); exact HKS.out _ (by repeat (first | exact Below.refl _ _ | assumption | refine bel_drew ?_ | refine bel_alloc ?_ _ | refine bel_trans ?_ (by assumption))))); clear hKW KW; (try simp only [Act.put, List.setIfInBounds_toArray, List.set_cons_zero, List.set_cons_succ])
      refine tk_yes 58 (v := ?_) rfl (by kernel_rfl) (by kernel_rfl) (by kernel_rfl) (fun _ _ _ h => h) (by kernel_rfl) (by assumption) ?_ ?_; rotate_left; (focus (intro w hSw; (try dsimp only at hSw); go_simp; (first | done | (with_reducible rfl)))); (try simp only [Act.put, List.setIfInBounds_toArray, List.set_cons_zero, List.set_cons_succ])
      refine tk_yes 59 (v := ?_) rfl (by kernel_rfl) (by kernel_rfl) (by kernel_rfl) (fun _ _ _ h => h) (by kernel_rfl) (by assumption) ?_ ?_; rotate_left; (focus (intro w hSw; (try dsimp only at hSw); go_simp; (first | done | (with_reducible rfl)))); (try simp only [Act.put, List.setIfInBounds_toArray, List.set_cons_zero, List.set_cons_succ])
      refine wpAnyH_done (by kernel_rfl) ?_ _
      go_wp2_with fail
      exact bodyPost_ret (v := .bool true) (by simp [results, Try.results13, go_sem]) rfl ⟨rfl, bel_trans' HW0.out (bel_trans HB4.out B57) HW0.out.size⟩
  · go_simp; refine hKW.out _ _ ?_ (fun hHeld => ?_); (focus ((try dsimp only); exact HKS.out _ (by repeat (first | exact Below.refl _ _ | assumption | refine bel_drew ?_ | refine bel_alloc ?_ _ | refine bel_trans ?_ (by assumption))))); clear hKW KW; (try simp only [Act.put, List.setIfInBounds_toArray, List.set_cons_zero, List.set_cons_succ])
    refine tk_call 45 rfl (by kernel_rfl) (by kernel_rfl) (fun KW hKW => ?_); go_simp; refine hKW.out _ _ ?_ (fun hHeld => ?_); (focus ((try dsimp only); exact HKS.out _ (by repeat (first | exact Below.refl _ _ | assumption | refine bel_drew ?_ | refine bel_alloc ?_ _ | refine bel_trans ?_ (by assumption))))); clear hKW KW; (try simp only [Act.put, List.setIfInBounds_toArray, List.set_cons_zero, List.set_cons_succ])
    refine tk_call 46 rfl (by kernel_rfl) (by kernel_rfl) (fun KW hKW => ?_); go_simp; go_at_call 63; refine (page_Join (A := A) (n := n) (xs := xs) _ c cur (IA.out _ (bel_trans HB4.out (by exact (by repeat (first | exact Below.refl _ _ | assumption | refine bel_drew ?_ | refine bel_alloc ?_ _ | refine bel_trans ?_ (by assumption)))))) hn1 (by first | (simp; done) | (simp; omega)) (by simp [go_sem]) (by simp [go_sem]) (by simp [go_sem]) (by simp [go_sem])).mono ?_; rintro e w46 ⟨vj, rfl, oj, dj⟩; rw [HZ.out] at oj; replace oj := Lib.hid oj; refine hKW.out _ _ ?_ (fun hHeld => ?_); (focus ((try dsimp only); exact HKS.out _ (by repeat (first | exact Below.refl _ _ | assumption | refine bel_drew ?_ | refine bel_alloc ?_ _ | refine bel_trans ?_ (by assumption))))); clear hKW KW; (try simp only [Act.put, List.setIfInBounds_toArray, List.set_cons_zero, List.set_cons_succ])
    have OE := Lib.hid ((((own_emptyI u35).keep (bel_alloc (Below.refl _ _) (.cells #[.slice A n c, .int .i64 cur, .slice A n c, .int .i64 cur] 53))).keep dj).mono (B' := v4.heap.size) (by omega))
    have NE : ∀ k, vj.ownBlock = some k → (Value.slice (some ⟨u35.heap.size, 0, none⟩) 0 0).ownBlock ≠ some k := fun k hk => by have := (oj.out.ltB k hk).1; simp at this; simp [Value.ownBlock]; omega
    have JO := oj
    have BW : Below v4.heap.size v4 w46 := (by repeat (first | exact Below.refl _ _ | assumption | refine bel_drew ?_ | refine bel_alloc ?_ _ | refine bel_trans ?_ (by assumption)))
    refine tk_call 50 rfl (by kernel_rfl) (by kernel_rfl) (fun KW hKW => ?_); refine app_operI2 (.tmp 115) (.tmp 117) rfl v4.heap.size _ [] rfl OE.out A n c xs rfl ((IA.out _ (bel_trans HB4.out BW)).srcI) (by simp; omega) BW.size ?_; intro v50 w50 ho50 hb50 hk50 hor50 hs50; have B50 := BW.trans hb50; have JO50 := hk50 _ _ _ JO.out NE; have NE50 : ∀ k, vj.ownBlock = some k → v50.ownBlock ≠ some k := (fun k hk => by (rcases hor50 with e | e <;> rw [e]); exact NE k hk; exact fun e => absurd (Option.some.inj e) (Nat.ne_of_gt (JO.out.ltB k hk).2)); rw [List.nil_append] at ho50; have HO50 := Lib.hid ho50; replace JO50 := Lib.hid JO50; clear hb50 hk50 hor50 ho50; refine hKW.out _ _ ?_ (fun hHeld => ?_); (focus ((try dsimp only); exact HKS.out _ (by repeat (first | exact Below.refl _ _ | assumption | refine bel_drew ?_ | refine bel_alloc ?_ _ | refine bel_trans ?_ (by assumption))))); clear hKW KW; (try simp only [Act.put, List.setIfInBounds_toArray, List.set_cons_zero, List.set_cons_succ])
    refine tk_call 53 rfl (by kernel_rfl) (by kernel_rfl) (fun KW hKW => ?_); refine app_operI2 (.tmp 118) (.tmp 120) rfl v4.heap.size _ xs rfl HO50.out A n c xs rfl ((IA.out _ (bel_trans HB4.out B50)).srcI) (by have := HL.out; omega) B50.size ?_; intro v53 w53 ho53 hb53 hk53 hor53 hs53; rw [HZ.out] at ho53; have B53 := B50.trans hb53; have JO53 := hk53 _ _ _ JO50.out NE50; obtain ⟨Aj, cj, rfl, ij, _⟩ := JO53.ints; obtain ⟨Ae, ce, rfl, ie, _⟩ := ho53.ints; have C54 := same_refl cj ce ij ie; replace C54 := Lib.hid C54; clear hb53 hk53 hor53 ho53 JO53 ij ie NE50; refine hKW.out _ _ ?_ (fun hHeld => ?_); (focus ((try dsimp only); exact HKS.out _ (by repeat (first | exact Below.refl _ _ | assumption | refine bel_drew ?_ | refine bel_alloc ?_ _ | refine bel_trans ?_ (by assumption))))); clear hKW KW; (try simp only [Act.put, List.setIfInBounds_toArray, List.set_cons_zero, List.set_cons_succ])
    refine tk_call 54 rfl (by kernel_rfl) (by kernel_rfl) (fun KW hKW => ?_); go_simp; go_at_call 62; refine C54.out.mono ?_; rintro e w54 ⟨rfl, d54⟩; have B54 := bel_trans B53 d54; refine hKW.out _ _ ?_ (fun hHeld => ?_); (focus ((try dsimp only); exact HKS.out _ (by repeat (first | exact Below.refl _ _ | assumption | refine bel_drew ?_ | refine bel_alloc ?_ _ | refine bel_trans ?_ (by assumption))))); clear hKW KW; (try simp only [Act.put, List.setIfInBounds_toArray, List.set_cons_zero, List.set_cons_succ])
    refine tk_yes 55 (v := ?_) rfl (by kernel_rfl) (by kernel_rfl) (by kernel_rfl) (fun _ _ _ h => h) (by kernel_rfl) (by assumption) ?_ ?_; rotate_left; (focus (intro w hSw; (try dsimp only at hSw); go_simp; (first | done | (with_reducible rfl)))); (try simp only [Act.put, List.setIfInBounds_toArray, List.set_cons_zero, List.set_cons_succ])
    refine tk_yes 56 (v := ?_) rfl (by kernel_rfl) (by kernel_rfl) (by kernel_rfl) (fun _ _ _ h => h) (by kernel_rfl) (by assumption) ?_ ?_; rotate_left; (focus (intro w hSw; (try dsimp only at hSw); go_simp; (first | done | (with_reducible rfl)))); (try simp only [Act.put, List.setIfInBounds_toArray, List.set_cons_zero, List.set_cons_succ])
    refine tk_call 57 rfl (by kernel_rfl) (by kernel_rfl) (fun KW hKW => ?_); go_simp; go_at_call 46; refine (law39_works _).mono ?_; rintro e w57 ⟨rfl, d57⟩; have B57 := bel_trans B54 d57; refine hKW.out _ _ ?_ (fun hHeld => ?_); (focus ((try dsimp only); exact HKS.out _ (by repeat (first | exact Below.refl _ _ | assumption | refine bel_drew ?_ | refine bel_alloc ?_ _ | refine bel_trans ?_ (by assumption))))); clear hKW KW; (try simp only [Act.put, List.setIfInBounds_toArray, List.set_cons_zero, List.set_cons_succ])
    refine tk_yes 58 (v := ?_) rfl (by kernel_rfl) (by kernel_rfl) (by kernel_rfl) (fun _ _ _ h => h) (by kernel_rfl) (by assumption) ?_ ?_; rotate_left; (focus (intro w hSw; (try dsimp only at hSw); go_simp; (first | done | (with_reducible rfl)))); (try simp only [Act.put, List.setIfInBounds_toArray, List.set_cons_zero, List.set_cons_succ])
    refine tk_yes 59 (v := ?_) rfl (by kernel_rfl) (by kernel_rfl) (by kernel_rfl) (fun _ _ _ h => h) (by kernel_rfl) (by assumption) ?_ ?_; rotate_left; (focus (intro w hSw; (try dsimp only at hSw); go_simp; (first | done | (with_reducible rfl)))); (try simp only [Act.put, List.setIfInBounds_toArray, List.set_cons_zero, List.set_cons_succ])
    refine wpAnyH_done (by kernel_rfl) ?_ _
    go_wp2_with fail
    exact bodyPost_ret (v := .bool true) (by simp [results, Try.results13, go_sem]) rfl ⟨rfl, bel_trans' HW0.out (bel_trans HB4.out B57) HW0.out.size⟩
end Go.Proofs.Ytfgfnfjeopjbgaa
