/-
  The walk of ChainJoins.
-/
import Derived.Test.YtdhcmnbajkpjiaaChainQ
import Derived.Test.YtdhcmnbajkpjiaaChainN
import Derived.Test.YtdhcmnbajkpjiaaBytes
import Derived.Deep.LoopGhost
import Derived.Deep.RegionHeld3
namespace Go.Proofs.Ytdhcmnbajkpjiaa
open Go.RowKit
set_option linter.unusedVariables false
attribute [local go_sem] drewN_alloc drewN_setCell

/-- A chain and rows that tell the same, at the head of a loop. -/
def JoinsRel (w0 : World) (B C Nb Lb m : Nat) (s6 s8 : Value) (wr : World) : Prop :=
  ∃ j : Nat, j ≤ m ∧ s8 = .int .i64 j ∧ ∃ R A c, s6 = .slice A 4 c ∧ ChainOver w0 wr C Nb Lb 20 4 R ∧ RowsAt B wr A 4 R ∧ B ≤ wr.heap.size
def JoinsOut (w0 : World) (B C Nb Lb m : Nat) (g : Nat) (s6 s8 : Value) (wr : World) : Prop :=
  ∃ j : Nat, j + g = m ∧ s8 = .int .i64 j ∧ ∃ R A c, s6 = .slice A 4 c ∧ ChainOver w0 wr C Nb Lb 20 4 R ∧ RowsAt B wr A 4 R ∧ B ≤ wr.heap.size
def JoinsIn (w1 : World) (g : Nat) (s12 : Value) (wr : World) : Prop := ∃ k : Nat, k + g = 4 ∧ s12 = .int .i64 k ∧ Below w1.heap.size w1 wr

theorem ref05_Add20 {A : Option Addr} {B l : Nat} {R : Nat → List Nat} {w : World} (c : Nat) (i x : Int) (h : RowsAt B w A l R) (hlen : ∀ i, i < l → (R i).length ≤ 1048576) :
    Calls Try.prog 25 #[.slice A l c, .int .i64 20, .int .i64 i, .int .i64 x] w (GivesRowsB B w l (PC.addR 20 l R i x) (PC.addB 20 l R i x)) := ref05_Add (n := 20) c i x h (by omega) hlen
theorem ref05_Move20 {A : Option Addr} {B l : Nat} {R : Nat → List Nat} {w : World} (c : Nat) (i x : Int) (h : RowsAt B w A l R) (hlen : ∀ i, i < l → (R i).length ≤ 1048576) :
    Calls Try.prog 31 #[.slice A l c, .int .i64 20, .int .i64 i, .int .i64 x] w (GivesRowsB B w l (PC.moveR 20 l R i x) (PC.moveB 20 l R i x)) := ref05_Move (n := 20) c i x h (by omega) hlen

set_option maxRecDepth 100000 in
theorem law05_ChainJoins_long (A D : Option Addr) (n c m d : Nat) (w : World) (h : 60 < n ∨ 40 < m) (hn : n ≤ 9223372036854775807) (hm : m ≤ 9223372036854775807) :
    Calls Try.prog 6 #[.slice A n c, .slice D m d] w fun e w' => e = .returned (.bool true) ∧ Below w.heap.size w w' := by
  by_cases h1 : 60 < n
  · have h1' : (60 : Int) < (n : Int) := by omega
    clear h
    go_enter Try.func6, Try.ntmps6
    go_wp2_with fail
    refine (law05_works _).mono ?_
    rintro e w1 ⟨rfl, h1⟩
    go_wp2_with fail
    go_ret
    exact ⟨rfl, h1⟩
  · have h1' : (n : Int) ≤ 60 := by omega
    have h2' : (40 : Int) < (m : Int) := by omega
    clear h h1
    go_enter Try.func6, Try.ntmps6
    go_wp2_with fail
    refine (law05_works _).mono ?_
    rintro e w1 ⟨rfl, h1⟩
    go_wp2_with fail
    go_ret
    exact ⟨rfl, h1⟩

set_option maxRecDepth 100000 in
set_option maxHeartbeats 4000000 in
theorem law05_ChainJoins_run (A D : Option Addr) (n c m d : Nat) (xs : List Int) (G : Nat → Nat → Int) (w : World) (hA : BytesAt w A n xs) (hD : Fr.IsRows w 3 D m d G) (h60 : n ≤ 60) (h40 : m ≤ 40) :
    Calls Try.prog 6 #[.slice A n c, .slice D m d] w fun e w' => e = .returned (.bool true) ∧ Below w.heap.size w w' := by
  have hinfo : (Try.prog.info? 27).map (fun i => (i.zero, i.size, i.bytes)) = some (some (.slice none 0 0), 1, 24) := by kernel_rfl
  have hmk := run_make_row' (P := Try.prog) 34 27 (.slice none 0 0) 24 Try.underlying34 hinfo rfl .i64 .i64 4 (by omega) (by omega)
  rw [filled_made _ _ (fun _ => .slice none 0 0)] at hmk
  have hmk4 : ∀ W : World, (Instr.makeSlice 34 (.int .i64 4) (.int .i64 4)).run Try.prog W = .ok (.slice (some ⟨W.heap.size, 0, none⟩) 4 4) (W.alloc (.cells (filled 4 0 (fun _ => .slice none 0 0) (.slice none 0 0)).toArray 27)) := fun W => hmk W
  have j1 : (n : Int) ≤ 60 := by omega
  have j2 : (m : Int) ≤ 40 := by omega
  have HA := Lib.hid hA
  have HD := Lib.hid hD
  have NN := Lib.hid (over_New 4 20 w (by omega) (by omega))
  clear hinfo hA hD hmk
  go_enter Try.func6, Try.ntmps6
  go_wp2_with fail
  refine NN.out.mono ?_
  rintro e w1 ⟨C, Nb, Lb, rfl, h1⟩
  obtain ⟨-, l2, l3⟩ := h1.rows.lt1
  obtain ⟨B, hB⟩ : ∃ B, w1.heap.size = B := ⟨_, rfl⟩
  rw [hB] at l2 l3
  have hNB := Lib.hid l2
  have hLB := Lib.hid l3
  have HR0 : Hid (RowsAt B (w1.alloc (.cells (filled 4 0 (fun _ => .slice none 0 0) (.slice none 0 0)).toArray 27)) (some ⟨B, 0, none⟩) 4 PC.none0) := by
    refine Lib.hid ⟨by omega, B, 0, rfl, fun _ => ⟨by simp; omega, Nat.le_refl _⟩, fun i hi => ⟨.slice none 0 0, ?_, none, 0, 0, rfl, IntsFrom.nil, by omega, by omega⟩⟩
    have := (RowAt.new w1 27 (filled 4 0 (fun _ => .slice none 0 0) (.slice none 0 0))).cell i
    rw [filled_get _ _ hi, hB] at this
    rw [Nat.zero_add, this]
    simp
  have HO0 := Lib.hid (h1.keep (bel_alloc (Below.refl _ _) (.cells (filled 4 0 (fun _ => .slice none 0 0) (.slice none 0 0)).toArray 27)))
  have HS0 : B ≤ (w1.alloc (.cells (filled 4 0 (fun _ => .slice none 0 0) (.slice none 0 0)).toArray 27)).heap.size := by simp; omega
  replace HS0 := Lib.hid HS0
  have HBB := Lib.hid hB
  clear h1 l2 l3 hB NN
  go_wp2_with fail
  rw [HBB.out]
  clear hmk4
  go_loopw [6, 7] (fun s6 s7 wr => JoinsRel w B C Nb Lb n s6 s7 wr) (fun s6 s7 _ => n - (intOf s7).toNat)
  case atStart => exact ⟨0, Nat.zero_le _, rfl, _, _, _, rfl, HO0.out, HR0.out, HS0.out⟩
  case round =>
    clear HO0 HR0 HS0
    obtain ⟨j, hj, rfl, R, A2, c2, rfl, ho, hr, hs⟩ := hrel
    have HO := Lib.hid ho
    have HR := Lib.hid hr
    have hbw := ho.below
    have HL := Lib.hid (rows_len (n := 20) ho.rows (by omega))
    clear ho hr
    by_cases hlt : (j : Int) < n
    · obtain ⟨b, off, rfl, hb, hc⟩ := HA.out.2.2.2 (by omega)
      have x0 := hc j (by omega)
      obtain ⟨hx0, hx1⟩ := HA.out.bd (i := j) (by omega)
      obtain ⟨x, hx⟩ : ∃ x, xs.getD j 0 = x := ⟨_, rfl⟩
      rw [hx] at x0 hx0 hx1
      have KS : ∀ w', Below w.heap.size w w' → w'.cell? ⟨b, off + j, none⟩ = some (.int .u8 x) := fun w' hw => (hw.cell (p := ⟨b, off + j, none⟩) hb).trans x0
      have HKS := Lib.hid KS
      have g0 : (0 : Int) ≤ (j : Int) := by omega
      obtain ⟨p, hp⟩ : ∃ p, x % 4 = p := ⟨_, rfl⟩
      obtain ⟨d4, hd4⟩ : ∃ d, x / 4 = d := ⟨_, rfl⟩
      obtain ⟨q, hq⟩ : ∃ q, d4 % 20 = q := ⟨_, rfl⟩
      have p0 : 0 ≤ d4 := by omega
      have p1 : d4 < 64 := by omega
      have p2 : 0 ≤ p := by omega
      have p3 : p < 4 := by omega
      have p4 : 0 ≤ q := by omega
      have p5 : q < 20 := by omega
      have hp' : x.tmod 4 = p := by rw [Int.tmod_eq_emod_of_nonneg hx0]; exact hp
      have hd' : x.tdiv 4 = d4 := by rw [Int.tdiv_eq_ediv_of_nonneg hx0]; exact hd4
      have hq' : d4.tmod 20 = q := by rw [Int.tmod_eq_emod_of_nonneg p0]; exact hq
      have v1 : IntKind.i64.wrap x = x := by rw [IntKind.wrap_i64]; omega
      have v2 : IntKind.i64.wrap p = p := by rw [IntKind.wrap_i64]; omega
      have v3 : IntKind.i64.wrap d4 = d4 := by rw [IntKind.wrap_i64]; omega
      have v4 : IntKind.i64.wrap q = q := by rw [IntKind.wrap_i64]; omega
      clear KS hx hc hb x0 hj
      go_wp2_with fail
      go_region_held3 (fun w' => w'.cell? ⟨b, off + j, none⟩ = some (.int .u8 x)) (exact HKS.out _ (by repeat (first | exact Below.refl _ _ | assumption | refine bel_drew ?_ | refine bel_drewN ?_ _ | refine bel_alloc ?_ _ | refine bel_set ?_ (by first | (dsimp only; omega) | (simp; done) | (simp; omega)) _ | refine bel_trans ?_ (by assumption)))) (first | (go_simp; go_at_call 19; (with_reducible refine (over_Add _ _ (HO.out.keep (Below.refl _ _).drew)).mono ?_); rintro e w5 ⟨rfl, h5, o5⟩; have h5b := h5.below; replace h5 := Lib.hid h5; replace o5 := Lib.hid o5))
      have r5 := Lib.hid ((HR.out.keep (Below.refl _ _).drew).off hNB.out hLB.out o5.out)
      have s5 : B ≤ w5.heap.size := Nat.le_trans hs o5.out.size
      go_wp2_with fail
      go_region_held3 (fun w' => w'.cell? ⟨b, off + j, none⟩ = some (.int .u8 x)) (exact HKS.out _ (by repeat (first | exact Below.refl _ _ | assumption | refine bel_drew ?_ | refine bel_drewN ?_ _ | refine bel_alloc ?_ _ | refine bel_set ?_ (by first | (dsimp only; omega) | (simp; done) | (simp; omega)) _ | refine bel_trans ?_ (by assumption)))) (first | (go_simp; go_at_call 25; (with_reducible refine (ref05_Add20 c2 _ _ (r5.out.keep (Below.refl _ _).drew) HL.out).mono ?_); rintro e w6 ⟨A3, c3, rfl, r6, b6⟩; have h6b := bel_trans (Below.drew h5b) b6; replace r6 := Lib.hid r6))
      have h6 := Lib.hid (h5.out.keep (bel_trans (Below.refl _ _).drew b6))
      have s6 : B ≤ w6.heap.size := Nat.le_trans s5 b6.size
      clear hp hd4 hq hp' hd' hq' v1 v2 v3 v4 b6
      go_wp2_with fail
      go_roundw
      case rel => exact ⟨j + 1, by omega, by go_num, _, _, _, rfl, h6.out, r6.out, s6⟩
      case measure => simp [intOf]; omega
    · clear hj hbw HL
      go_wp2_with fail
      go_loopg [6, 8] m (fun g s6 s8 wr => JoinsOut w B C Nb Lb m g s6 s8 wr)
      case atStart => exact ⟨0, by omega, rfl, _, _, _, rfl, HO.out, HR.out, hs⟩
      case round =>
        clear HO HR hs hlt
        obtain ⟨j', hj, rfl, R, A3, c3, rfl, ho, hr, hs⟩ := hrel
        obtain ⟨gg, rfl⟩ : ∃ gg : Nat, gg = gk := ⟨_, rfl⟩
        obtain ⟨wo, rfl⟩ : ∃ wo : World, wo = wr := ⟨_, rfl⟩
        have HO := Lib.hid ho
        have HR := Lib.hid hr
        have HL := Lib.hid (rows_len (n := 20) ho.rows (by omega))
        have hbw := ho.below
        have HJ := Lib.hid hj
        have g0 : (0 : Int) ≤ (j' : Int) := by omega
        clear ho hr
        by_cases hlt2 : j' < m
        · have hlt3 : (j' : Int) < (m : Int) := by omega
          have hrows : ∃ b off, D = some ⟨b, off, none⟩ ∧ b < w.heap.size ∧ ∀ k, k < 3 → w.cell? ⟨b, off + j' * 3 + k, none⟩ = some (.int .i64 (G j' k)) := by
            rcases HD.out with ⟨_, h0, _⟩ | ⟨b, off, e1, e2, e3, _, e5⟩
            · omega
            · exact ⟨b, off, e1, e2 (by omega), fun k hk => (e5 j' (by omega) k hk).1⟩
          obtain ⟨b, off, rfl, hb, hcell⟩ := hrows
          have y0 := (hbw.cell (p := ⟨b, off + j' * 3 + 0, none⟩) hb).trans (hcell 0 (by omega))
          have y1 := (hbw.cell (p := ⟨b, off + j' * 3 + 1, none⟩) hb).trans (hcell 1 (by omega))
          have y2 := (hbw.cell (p := ⟨b, off + j' * 3 + 2, none⟩) hb).trans (hcell 2 (by omega))
          rw [Nat.add_zero] at y0
          generalize G j' 0 = z at *
          generalize G j' 1 = a at *
          generalize G j' 2 = b' at *
          clear hcell hj hb
          go_wp2_with fail
          go_quiet (fail)
          have hO1 := Lib.hid (HO.out.keep (bel_drewN (Below.refl _ _) nq))
          have hR1 := Lib.hid (HR.out.keep (bel_drewN (Below.refl _ _) nq))
          clear HO HR y1 y2
          by_cases hz : z.tmod 2 = 0
          · have e1 : (z.tmod 2 == 0) = true := by simpa using hz
            clear hz
            go_wp2_with fail
            refine (ref05_Move20 c3 a b' hR1.out HL.out).mono ?_
            rintro e w2 ⟨A4, c4, rfl, hr2, hb2⟩
            have h2 := Lib.hid (hO1.out.keep hb2)
            have s2 : B ≤ w2.heap.size := Nat.le_trans hs hb2.size
            replace hr2 := Lib.hid hr2
            obtain ⟨q, hq⟩ : ∃ q, PC.moveB 20 4 R a b' = q := ⟨_, rfl⟩
            rw [hq]
            have u1 : (q != q) = false := by simp
            have HQ := Lib.hid hq
            clear hb2 hq y0 e1
            go_wp2_with fail
            refine (over_Move a b' h2.out).mono ?_
            rw [HQ.out]
            rintro e w3 ⟨rfl, h3, o3⟩
            have r3 := Lib.hid (hr2.out.off hNB.out hLB.out o3)
            have s3 : B ≤ w3.heap.size := Nat.le_trans s2 o3.size
            replace h3 := Lib.hid h3
            clear o3
            go_wp2_with fail
            go_loopg [12] 4 (fun g s12 wr => JoinsIn w3 g s12 wr)
            case atStart => exact ⟨0, by omega, rfl, Below.refl _ _⟩
            case round =>
              obtain ⟨k, hk, rfl, hbel⟩ := hrel
              have h4 := Lib.hid (h3.out.keep hbel)
              have r4 := Lib.hid (r3.out.keep hbel)
              have s4 : B ≤ wr.heap.size := Nat.le_trans s3 hbel.size
              have k0 : (0 : Int) ≤ (k : Int) := by omega
              replace hbel := Lib.hid hbel
              by_cases hk4 : k < 4
              · have hk5 : (k : Int) < 4 := by omega
                have HK := Lib.hid hk
                clear hk
                go_wp2_with fail
                refine (law05_same c4 b' (k : Int) h4.out.rows r4.out).mono ?_
                rintro e w5 ⟨rfl, b5⟩
                have h5 := Lib.hid (h4.out.keep b5)
                have r5 := Lib.hid (r4.out.keep b5)
                have bb5 := Lib.hid (bel_trans hbel.out b5)
                clear b5
                go_wp2_with fail
                refine (law05_same c4 a (k : Int) h5.out.rows r5.out).mono ?_
                rintro e w6 ⟨rfl, b6⟩
                have bb6 := Lib.hid (bel_trans bb5.out b6)
                clear b6
                go_wp2_with fail
                go_roundg (gk - 1)
                case measure => have := HK.out; omega
                case rel => exact ⟨k + 1, by have := HK.out; omega, by go_num, bb6.out⟩
              · obtain rfl : k = 4 := by omega
                clear hk hk4
                go_wp2_with fail
                go_roundg (gg - 1)
                case measure => have := HJ.out; omega
                case rel => exact ⟨j' + 1, by have := HJ.out; omega, by go_num, _, _, _, rfl, h4.out, r4.out, s4⟩
          · have e1 : (z.tmod 2 == 0) = false := by simpa using hz
            clear hz
            go_wp2_with fail
            refine (ref05_Join c3 a b' hR1.out HL.out).mono ?_
            rintro e w2 ⟨A4, c4, rfl, hr2, hb2⟩
            have h2 := Lib.hid (hO1.out.keep hb2)
            have s2 : B ≤ w2.heap.size := Nat.le_trans hs hb2.size
            replace hr2 := Lib.hid hr2
            obtain ⟨q, hq⟩ : ∃ q, PC.joinB 4 a b' = q := ⟨_, rfl⟩
            rw [hq]
            have u1 : (q != q) = false := by simp
            have HQ := Lib.hid hq
            clear hb2 hq y0 e1
            go_wp2_with fail
            refine (over_Join a b' h2.out).mono ?_
            rw [HQ.out]
            rintro e w3 ⟨rfl, h3, o3⟩
            have r3 := Lib.hid (hr2.out.off hNB.out hLB.out o3)
            have s3 : B ≤ w3.heap.size := Nat.le_trans s2 o3.size
            replace h3 := Lib.hid h3
            clear o3
            go_wp2_with fail
            go_loopg [12] 4 (fun g s12 wr => JoinsIn w3 g s12 wr)
            case atStart => exact ⟨0, by omega, rfl, Below.refl _ _⟩
            case round =>
              obtain ⟨k, hk, rfl, hbel⟩ := hrel
              have h4 := Lib.hid (h3.out.keep hbel)
              have r4 := Lib.hid (r3.out.keep hbel)
              have s4 : B ≤ wr.heap.size := Nat.le_trans s3 hbel.size
              have k0 : (0 : Int) ≤ (k : Int) := by omega
              replace hbel := Lib.hid hbel
              by_cases hk4 : k < 4
              · have hk5 : (k : Int) < 4 := by omega
                have HK := Lib.hid hk
                clear hk
                go_wp2_with fail
                refine (law05_same c4 b' (k : Int) h4.out.rows r4.out).mono ?_
                rintro e w5 ⟨rfl, b5⟩
                have h5 := Lib.hid (h4.out.keep b5)
                have r5 := Lib.hid (r4.out.keep b5)
                have bb5 := Lib.hid (bel_trans hbel.out b5)
                clear b5
                go_wp2_with fail
                refine (law05_same c4 a (k : Int) h5.out.rows r5.out).mono ?_
                rintro e w6 ⟨rfl, b6⟩
                have bb6 := Lib.hid (bel_trans bb5.out b6)
                clear b6
                go_wp2_with fail
                go_roundg (gk - 1)
                case measure => have := HK.out; omega
                case rel => exact ⟨k + 1, by have := HK.out; omega, by go_num, bb6.out⟩
              · obtain rfl : k = 4 := by omega
                clear hk hk4
                go_wp2_with fail
                go_roundg (gg - 1)
                case measure => have := HJ.out; omega
                case rel => exact ⟨j' + 1, by have := HJ.out; omega, by go_num, _, _, _, rfl, h4.out, r4.out, s4⟩
        · obtain rfl : j' = m := by omega
          clear hlt2 hj HJ
          go_wp2_with fail
          refine (chain_Move_nil _ _ _).mono ?_
          rintro e w7 ⟨rfl, rfl⟩
          go_wp2_with fail
          refine (chain_Join_nil _ _ _).mono ?_
          rintro e w7 ⟨rfl, rfl⟩
          go_wp2_with fail
          refine (law05_works _).mono ?_
          rintro e w7 ⟨rfl, h7⟩
          go_wp2_with fail
          go_ret
          exact ⟨rfl, bel_trans HO.out.below h7⟩

theorem law05_ChainJoins (A D : Option Addr) (n c m d : Nat) (xs : List Int) (G : Nat → Nat → Int) (w : World) (hA : BytesAt w A n xs) (hD : Fr.IsRows w 3 D m d G) :
    Calls Try.prog 6 #[.slice A n c, .slice D m d] w fun e w' => e = .returned (.bool true) ∧ Below w.heap.size w w' := by
  have hm : m ≤ 9223372036854775807 := by
    rcases hD with ⟨_, h0, _⟩ | ⟨_, _, _, _, e3, e4, _⟩
    · omega
    · unfold maxLen at e4; omega
  by_cases h : 60 < n ∨ 40 < m
  · exact law05_ChainJoins_long A D n c m d w h hA.2.1 hm
  · exact law05_ChainJoins_run A D n c m d xs G w hA hD (by omega) (by omega)
end Go.Proofs.Ytdhcmnbajkpjiaa
