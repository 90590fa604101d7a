/-
  The walk of ChainPlays.
-/
import Derived.Test.YtdhcmnbajkpjiaaChainM
import Derived.Test.YtdhcmnbajkpjiaaChainH
import Derived.Test.YtdhcmnbajkpjiaaFrame4
namespace Go.Proofs.Ytdhcmnbajkpjiaa
open Go.RowKit
set_option linter.unusedVariables false
attribute [local go_sem] drewN_alloc drewN_setCell

/-- A slice of acts: whether to drop, the list, the node. -/
def ActsAt (w : World) (A : Option Addr) (n : Nat) (D : Nat → Bool) (L N : Nat → Int) : Prop :=
  n ≤ 9223372036854775807 ∧ (0 < n → ∃ b off, A = some ⟨b, off, none⟩ ∧ b < w.heap.size ∧ ∀ i, i < n →
    w.cell? ⟨b, off + i * 3, none⟩ = some (.bool (D i)) ∧ w.cell? ⟨b, off + i * 3 + 1, none⟩ = some (.int .i64 (L i)) ∧ w.cell? ⟨b, off + i * 3 + 2, none⟩ = some (.int .i64 (N i)))
def ActQ (j : Nat) (v : Value) : Prop := if j = 0 then Fr.BoolV v else Fr.IntV v
theorem acts_of_rows {w : World} {A : Option Addr} {n : Nat} (h : Fr.RowsP w 3 ActQ A n) : ∃ D L N, ActsAt w A n D L N := by
  by_cases h0 : 0 < n
  · obtain ⟨b, off, rfl, hb, hc⟩ := h.2 h0
    refine ⟨fun i => match w.cell? ⟨b, off + i * 3, none⟩ with | some (.bool d) => d | _ => false, fun i => match w.cell? ⟨b, off + i * 3 + 1, none⟩ with | some (.int _ d) => d | _ => 0, fun i => match w.cell? ⟨b, off + i * 3 + 2, none⟩ with | some (.int _ d) => d | _ => 0, h.1, fun _ => ⟨b, off, rfl, hb, fun i hi => ?_⟩⟩
    obtain ⟨v0, e0, q0⟩ := hc i hi 0 (by omega)
    obtain ⟨v1, e1, q1⟩ := hc i hi 1 (by omega)
    obtain ⟨v2, e2, q2⟩ := hc i hi 2 (by omega)
    rw [Nat.add_zero] at e0
    obtain ⟨d, rfl⟩ : Fr.BoolV v0 := q0
    obtain ⟨x, rfl, _⟩ : Fr.IntV v1 := q1
    obtain ⟨y, rfl, _⟩ : Fr.IntV v2 := q2
    simp only [e0, e1, e2]
    trivial
  · exact ⟨fun _ => false, fun _ => 0, fun _ => 0, h.1, fun hh => absurd hh h0⟩

def PlaysRel (w0 : World) (B C Nb Lb n0 n1 m : Nat) (s8 s9 : Value) (wr : World) : Prop :=
  ∃ j : Nat, j ≤ m ∧ s9 = .int .i64 j ∧ ∃ R A c, s8 = .slice A n0 c ∧ ChainOver w0 wr C Nb Lb n1 n0 R ∧ RowsAt B wr A n0 R ∧ B ≤ wr.heap.size

theorem rows_len {w : World} {C Nb Lb n l : Nat} {R : Nat → List Nat} (h : ChainRows w C Nb Lb n l R) (hn : n ≤ 1048576) : ∀ i, i < l → (R i).length ≤ 1048576 := by
  obtain ⟨S, _, hi⟩ := h
  intro i hl
  have := hi.len hl
  omega

set_option maxRecDepth 100000 in
set_option maxHeartbeats 4000000 in
theorem law05_ChainPlays_run (A : Option Addr) (m c n0 n1 : Nat) (D : Nat → Bool) (L N : Nat → Int) (x : Int) (w : World) (hA : ActsAt w A m D L N) (hm : m ≤ 60) (h0 : n0 ≤ 40) (h1 : n1 ≤ 200) :
    Calls Try.prog 4 #[.agg #[.int .i64 n0, .int .i64 n1], .slice A m c, .int .i64 x] w fun e w' => e = .returned (.bool true) ∧ Below w.heap.size w w' := by
  have hinfo : (Try.prog.info? 27).map (fun i => (i.zero, i.size, i.bytes)) = some (some (.slice none 0 0), 1, 24) := by kernel_rfl
  have hmk := run_make_row' (P := Try.prog) 34 27 (.slice none 0 0) 24 Try.underlying34 hinfo rfl .i64 .i64 n0 (by omega) (by omega)
  rw [filled_made _ _ (fun _ => .slice none 0 0)] at hmk
  have j1 : (m : Int) ≤ 60 := by omega
  have j2 : (n0 : Int) ≤ 40 := by omega
  have j3 : (n1 : Int) ≤ 200 := by omega
  have j4 : (0 : Int) ≤ (n0 : Int) := by omega
  have j5 : (0 : Int) ≤ (n1 : Int) := by omega
  have j6 : (n0 : Int) ≤ 1048576 := by omega
  have j7 : (n1 : Int) ≤ 1048576 := by omega
  have HA := Lib.hid hA
  obtain ⟨w0, hw0⟩ : ∃ w0, w.alloc (.cells #[.int .i64 n0, .int .i64 n1] 32) = w0 := ⟨_, rfl⟩
  have NN := over_New n0 n1 w0 (by omega) (by omega)
  have d0 : w0.cell? ⟨w.heap.size, 0, none⟩ = some (.int .i64 n0) := by rw [← hw0]; simp [go_sem]
  have d1 : w0.cell? ⟨w.heap.size, 1, none⟩ = some (.int .i64 n1) := by rw [← hw0]; simp [go_sem]
  have ds : w.heap.size < w0.heap.size := by rw [← hw0]; simp
  have db : Below w.heap.size w w0 := by rw [← hw0]; exact bel_alloc (Below.refl _ _) _
  replace NN := Lib.hid NN
  have D0 := Lib.hid d0
  have D1 := Lib.hid d1
  replace db := Lib.hid db
  replace hw0 := Lib.hid hw0
  clear hinfo hA d0 d1
  go_enter Try.func4, Try.ntmps4
  go_wp2_with fail
  rw [hw0.out]
  refine NN.out.mono ?_
  rintro e w1 ⟨C, Nb, Lb, rfl, h1⟩
  have c0 := (h1.below.cell (p := ⟨w.heap.size, 0, none⟩) ds).trans D0.out
  have c1 := (h1.below.cell (p := ⟨w.heap.size, 1, none⟩) ds).trans D1.out
  obtain ⟨-, l2, l3⟩ := h1.rows.lt1
  obtain ⟨B, hB⟩ : ∃ B, w1.heap.size = B := ⟨_, rfl⟩
  rw [hB] at l2 l3
  have hNB := Lib.hid l2
  have hLB := Lib.hid l3
  have hsB : w0.heap.size ≤ B := by have := h1.below.size; omega
  have HR0 : Hid (RowsAt B (w1.alloc (.cells (filled n0 0 (fun _ => .slice none 0 0) (.slice none 0 0)).toArray 27)) (some ⟨B, 0, none⟩) n0 PC.none0) := by
    refine Lib.hid ⟨by omega, B, 0, rfl, fun _ => ⟨by simp; omega, Nat.le_refl _⟩, fun i hi => ⟨.slice none 0 0, ?_, none, 0, 0, rfl, IntsFrom.nil, by omega, by omega⟩⟩
    have := (RowAt.new w1 27 (filled n0 0 (fun _ => .slice none 0 0) (.slice none 0 0))).cell i
    rw [filled_get _ _ hi, hB] at this
    rw [Nat.zero_add, this]
    simp
  have HO0 := Lib.hid (h1.keep (bel_alloc (Below.refl _ _) (.cells (filled n0 0 (fun _ => .slice none 0 0) (.slice none 0 0)).toArray 27)))
  have HS0 : B ≤ (w1.alloc (.cells (filled n0 0 (fun _ => .slice none 0 0) (.slice none 0 0)).toArray 27)).heap.size := by simp; omega
  replace HS0 := Lib.hid HS0
  have HBB := Lib.hid hB
  clear h1 l2 l3 hB NN
  go_wp2_with fail
  rw [HBB.out]
  clear c0 c1 hmk
  go_loopw [8, 9] (fun s8 s9 wr => PlaysRel w0 B C Nb Lb n0 n1 m s8 s9 wr) (fun s8 s9 _ => m - (intOf s9).toNat)
  case atStart => exact ⟨0, Nat.zero_le _, rfl, _, _, _, rfl, HO0.out, HR0.out, HS0.out⟩
  case round =>
    clear HO0 HR0 HS0
    obtain ⟨j, hj, rfl, R, A2, c2, rfl, ho, hr, hs⟩ := hrel
    have HO := Lib.hid ho
    have HR := Lib.hid hr
    have c1 := (ho.below.cell (p := ⟨w.heap.size, 1, none⟩) ds).trans D1.out
    clear ho hr
    by_cases hlt : (j : Int) < m
    · obtain ⟨b, off, rfl, hb, hc⟩ := HA.out.2 (by omega)
      obtain ⟨x0, x1, x2⟩ := hc j (by omega)
      have hbe := bel_trans db.out HO.out.below
      have y0 := (hbe.cell (p := ⟨b, off + j * 3, none⟩) hb).trans x0
      have y1 := (hbe.cell (p := ⟨b, off + j * 3 + 1, none⟩) hb).trans x1
      have y2 := (hbe.cell (p := ⟨b, off + j * 3 + 2, none⟩) hb).trans x2
      have g0 : (0 : Int) ≤ (j : Int) := by omega
      have hsw : w.heap.size < wr.heap.size := by omega
      clear x0 x1 x2 hbe hb
      rcases hd : D j with _ | _
      · rw [hd] at y0
        clear hd
        have ba := bel_alloc (Below.refl wr.heap.size wr) (.cells #[.bool false, .int .i64 (L j), .int .i64 (N j)] 36)
        have h1 := Lib.hid (HO.out.keep ba)
        have hr1 := Lib.hid (HR.out.keep ba)
        have hs1 : wr.heap.size < (wr.alloc (.cells #[.bool false, .int .i64 (L j), .int .i64 (N j)] 36)).heap.size := by simp
        have hA1 : (wr.alloc (.cells #[.bool false, .int .i64 (L j), .int .i64 (N j)] 36)).cell? ⟨wr.heap.size, 1, none⟩ = some (.int .i64 (L j)) := by simp [go_sem]
        have hA2 : (wr.alloc (.cells #[.bool false, .int .i64 (L j), .int .i64 (N j)] 36)).cell? ⟨wr.heap.size, 2, none⟩ = some (.int .i64 (N j)) := by simp [go_sem]
        have hC1 := (ba.cell (p := ⟨w.heap.size, 1, none⟩) (by dsimp only; omega)).trans c1
        replace hA1 := Lib.hid hA1
        replace hA2 := Lib.hid hA2
        replace hC1 := Lib.hid hC1
        replace hs1 := Lib.hid hs1
        clear ba hc
        go_wp2_with fail
        refine (ref05_Add (n := n1) c2 (L j) (N j) hr1.out (by omega) (rows_len (n := n1) h1.out.rows (by omega))).mono ?_
        rintro e w2 ⟨A', c3, rfl, hr2, hb2⟩
        have h2 := Lib.hid (h1.out.keep hb2)
        have a1 := (hb2.cell (p := ⟨wr.heap.size, 1, none⟩) hs1.out).trans hA1.out
        have a2 := (hb2.cell (p := ⟨wr.heap.size, 2, none⟩) hs1.out).trans hA2.out
        have s2 : wr.heap.size < w2.heap.size := Nat.lt_of_lt_of_le hs1.out hb2.size
        replace hr2 := Lib.hid hr2
        obtain ⟨q, hq⟩ : ∃ q, PC.addB n1 n0 R (L j) (N j) = q := ⟨_, rfl⟩
        rw [hq]
        have u1 : (q != q) = false := by simp
        have HQ := Lib.hid hq
        clear c1 hb2 hq
        go_wp2_with fail
        refine (over_Add (L j) (N j) h2.out).mono ?_
        rw [HQ.out]
        rintro e w3 ⟨rfl, h3, o3⟩
        have r3 := Lib.hid (hr2.out.off hNB.out hLB.out o3)
        have a1' := (o3.cell (a := ⟨wr.heap.size, 1, none⟩) (by have := hNB.out; dsimp only; omega) (by have := hLB.out; dsimp only; omega) s2).trans a1
        have a2' := (o3.cell (a := ⟨wr.heap.size, 2, none⟩) (by have := hNB.out; dsimp only; omega) (by have := hLB.out; dsimp only; omega) s2).trans a2
        have s3 : B ≤ w3.heap.size := by have := o3.size; omega
        replace h3 := Lib.hid h3
        clear a1 a2 o3 s2
        go_wp2_with fail
        refine (law05_same c3 (N j) (L j) h3.out.rows r3.out).mono ?_
        rintro e w4 ⟨rfl, b4⟩
        have h4 := Lib.hid (h3.out.keep b4)
        have r4 := Lib.hid (r3.out.keep b4)
        have s4 : B ≤ w4.heap.size := by have := b4.size; omega
        clear a1' a2' b4 s3
        go_wp2_with fail
        refine (law05_same c3 x (j : Int) h4.out.rows r4.out).mono ?_
        rintro e w5 ⟨rfl, b5⟩
        have h5 := Lib.hid (h4.out.keep b5)
        have r5 := Lib.hid (r4.out.keep b5)
        have s5 : B ≤ w5.heap.size := by have := b5.size; omega
        clear b5 s4
        go_wp2_with fail
        go_roundw
        case rel => exact ⟨j + 1, by omega, by go_num, _, _, _, rfl, h5.out, r5.out, s5⟩
        case measure => simp [intOf]; omega

      · rw [hd] at y0
        clear hd
        have ba := bel_alloc (Below.refl wr.heap.size wr) (.cells #[.bool true, .int .i64 (L j), .int .i64 (N j)] 36)
        have h1 := Lib.hid (HO.out.keep ba)
        have hr1 := Lib.hid (HR.out.keep ba)
        have hs1 : wr.heap.size < (wr.alloc (.cells #[.bool true, .int .i64 (L j), .int .i64 (N j)] 36)).heap.size := by simp
        have hA1 : (wr.alloc (.cells #[.bool true, .int .i64 (L j), .int .i64 (N j)] 36)).cell? ⟨wr.heap.size, 1, none⟩ = some (.int .i64 (L j)) := by simp [go_sem]
        have hA2 : (wr.alloc (.cells #[.bool true, .int .i64 (L j), .int .i64 (N j)] 36)).cell? ⟨wr.heap.size, 2, none⟩ = some (.int .i64 (N j)) := by simp [go_sem]
        have hC1 := (ba.cell (p := ⟨w.heap.size, 1, none⟩) (by dsimp only; omega)).trans c1
        replace hA1 := Lib.hid hA1
        replace hA2 := Lib.hid hA2
        replace hC1 := Lib.hid hC1
        replace hs1 := Lib.hid hs1
        clear ba hc
        go_wp2_with fail
        refine (ref05_Drop c2 (N j) hr1.out (rows_len (n := n1) h1.out.rows (by omega))).mono ?_
        rintro e w2 ⟨A', c3, rfl, hr2, hb2⟩
        have h2 := Lib.hid (h1.out.keep hb2)
        have a1 := (hb2.cell (p := ⟨wr.heap.size, 1, none⟩) hs1.out).trans hA1.out
        have a2 := (hb2.cell (p := ⟨wr.heap.size, 2, none⟩) hs1.out).trans hA2.out
        have s2 : wr.heap.size < w2.heap.size := Nat.lt_of_lt_of_le hs1.out hb2.size
        replace hr2 := Lib.hid hr2
        obtain ⟨q, hq⟩ : ∃ q, PC.dropB n0 R (N j) = q := ⟨_, rfl⟩
        rw [hq]
        have u1 : (q != q) = false := by simp
        have HQ := Lib.hid hq
        clear c1 hb2 hq
        go_wp2_with fail
        refine (over_Drop (N j) h2.out).mono ?_
        rw [HQ.out]
        rintro e w3 ⟨rfl, h3, o3⟩
        have r3 := Lib.hid (hr2.out.off hNB.out hLB.out o3)
        have a1' := (o3.cell (a := ⟨wr.heap.size, 1, none⟩) (by have := hNB.out; dsimp only; omega) (by have := hLB.out; dsimp only; omega) s2).trans a1
        have a2' := (o3.cell (a := ⟨wr.heap.size, 2, none⟩) (by have := hNB.out; dsimp only; omega) (by have := hLB.out; dsimp only; omega) s2).trans a2
        have s3 : B ≤ w3.heap.size := by have := o3.size; omega
        replace h3 := Lib.hid h3
        clear a1 a2 o3 s2
        go_wp2_with fail
        refine (law05_same c3 (N j) (L j) h3.out.rows r3.out).mono ?_
        rintro e w4 ⟨rfl, b4⟩
        have h4 := Lib.hid (h3.out.keep b4)
        have r4 := Lib.hid (r3.out.keep b4)
        have s4 : B ≤ w4.heap.size := by have := b4.size; omega
        clear a1' a2' b4 s3
        go_wp2_with fail
        refine (law05_same c3 x (j : Int) h4.out.rows r4.out).mono ?_
        rintro e w5 ⟨rfl, b5⟩
        have h5 := Lib.hid (h4.out.keep b5)
        have r5 := Lib.hid (r4.out.keep b5)
        have s5 : B ≤ w5.heap.size := by have := b5.size; omega
        clear b5 s4
        go_wp2_with fail
        go_roundw
        case rel => exact ⟨j + 1, by omega, by go_num, _, _, _, rfl, h5.out, r5.out, s5⟩
        case measure => simp [intOf]; omega

    · clear hj c1
      go_wp2_with fail
      refine (law05_works _).mono ?_
      rintro e w7 ⟨rfl, h7⟩
      go_wp2_with fail
      go_ret
      exact ⟨rfl, bel_trans (bel_trans db.out HO.out.below) h7⟩
end Go.Proofs.Ytdhcmnbajkpjiaa
