/- The proved evaluator: part E (SeP SeQ SeN SeL SeR SeS SeU SeV). -/
import Derived.Test.YtjdbkjfiadnjoaaGreatDoorProg
import Derived.Test.YtjdbkjfiadnjoaaGreatDoorEvD
import Derived.Deep.OwnRows
import Derived.Deep.RegionHeld3
import Derived.Outline
import Derived.Shelf.Abstract
import Derived.Test.YtjdbkjfiadnjoaaGreatDoorEvT
import Derived.Shelf.SlIterI.Nil
import Derived.Shelf.SlIterI.Sorted
import Derived.Shelf.SortM.Plain
import Derived.Shelf.SortM.SortNone
import Derived.Ground.GgzProg
import Derived.Ground.SlgmProg
import Derived.Test.YtjdbkjfiadnjoaaGreatDoorEvKd
import Derived.Test.YtjdbkjfiadnjoaaGreatDoorEvKn
import Derived.Test.YtjdbkjfiadnjoaaGreatDoorEvKw
import Derived.WalkKit
import Derived.ProofKit
import Derived.OpenShut
import Derived.ShutString
import Derived.ChangeOld
import Derived.Deep.Slices
import Derived.Deep.DeepHandedRow
import Derived.Lib.LaidTab
import Derived.Stop.LaidErr
set_option linter.unusedVariables false
set_option linter.unusedSimpArgs false
section
/-
  Chain: the contract of New.
-/
namespace Go.Proofs.Cw
open Go.RowKit
set_option linter.unusedVariables false
attribute [local go_sem] drewN_alloc drewN_setCell

theorem chain_New_no (l n : Int) (w : World) (h : l < 0 ∨ 1048576 < l ∨ n < 0 ∨ 1048576 < n) :
    Calls Tryz.prog 77 #[.int .i64 l, .int .i64 n] w fun e w' => e = .returned (.pointer none) ∧ w = w' := by
  by_cases h1 : l < 0
  · clear h
    go_enter Tryz.func77, Tryz.ntmps77
    go_wp2_with fail
    go_ret
    exact ⟨rfl, rfl⟩
  · by_cases h2 : 1048576 < l
    · clear h
      go_enter Tryz.func77, Tryz.ntmps77
      go_wp2_with fail
      go_ret
      exact ⟨rfl, rfl⟩
    · by_cases h3 : n < 0
      · clear h
        go_enter Tryz.func77, Tryz.ntmps77
        go_wp2_with fail
        go_ret
        exact ⟨rfl, rfl⟩
      · have h4 : 1048576 < n := by omega
        clear h
        go_enter Tryz.func77, Tryz.ntmps77
        go_wp2_with fail
        go_ret
        exact ⟨rfl, rfl⟩

/-- What a list's three cells hold at the beginning. -/
def lfill (j : Nat) : Value := if j % 3 = 2 then .int .i64 0 else .int .i64 (-1)
theorem lfill0 (k : Nat) : lfill (k * 3) = .int .i64 (-1) := by unfold lfill; rw [if_neg (by omega)]
theorem lfill1 (k : Nat) : lfill (k * 3 + 1) = .int .i64 (-1) := by unfold lfill; rw [if_neg (by omega)]
theorem lfill2 (k : Nat) : lfill (k * 3 + 2) = .int .i64 0 := by unfold lfill; rw [if_pos (by omega)]

theorem chain_none (w : World) : Calls Tryz.prog 125 #[] w fun e w' => e = .returned (.agg #[.int .i64 (-1), .int .i64 (-1)]) ∧ w.alloc (.cells #[.int .i64 (-1), .int .i64 (-1)] 311) = w' := by
  go_enter Tryz.func125, Tryz.ntmps125
  go_wp2_with fail
  exact bodyPost_ret (v := .agg #[.int .i64 (-1), .int .i64 (-1)]) (by simp [results, Tryz.results125, go_sem]) rfl ⟨rfl, rfl⟩

/-- What New has made, the nodes filled up to a, the lists up to b. -/
structure NewAt (w : World) (C Nb Lb n l a b : Nat) : Prop where
  rc : RowAt w C 309 [.slice (some ⟨Nb, 0, none⟩) n n, .slice (some ⟨Lb, 0, none⟩) l l]
  rn : RowAt w Nb 314 (filled (n * 3) a (fun _ => .int .i64 (-1)) (.int .i64 0))
  rl : RowAt w Lb 316 (filled (l * 3) b lfill (.int .i64 0))
  h1 : C ≠ Nb
  h2 : C ≠ Lb
  h3 : Nb ≠ Lb
/-- A chain of new memory, without nodes. -/
def MadeChain (w : World) (n l : Nat) (e : Ending) (w' : World) : Prop := ∃ C Nb Lb, e = .returned (.pointer (some ⟨C, 0, none⟩)) ∧ NewAt w' C Nb Lb n l (n * 3) (l * 3) ∧ Below w.heap.size w w' ∧ w.heap.size ≤ C ∧ w.heap.size ≤ Nb ∧ w.heap.size ≤ Lb
/-- A cell of another block, behind a round's stores. -/
theorem keep3 {w : World} {C Nb a b c o : Nat} {x y z v : Value} {ob : Obj} (h : w.cell? ⟨C, o, none⟩ = some v) (hC : C < w.heap.size) (hne : C ≠ Nb) :
    ((((w.setCell ⟨Nb, a, none⟩ x).setCell ⟨Nb, b, none⟩ y).setCell ⟨Nb, c, none⟩ z).alloc ob).drew.cell? ⟨C, o, none⟩ = some v := by
  have e := fun (W : World) (p : Addr) (u : Value) (hp : p.block = Nb) => World.cell?_setCell_other W p ⟨C, o, none⟩ u (by rintro rfl; exact hne hp)
  have e2 := fun (W : World) (hW : C < W.heap.size) => Below.cell (((Below.refl W.heap.size W).alloc (Nat.le_refl _) ob).drew) (p := ⟨C, o, none⟩) hW
  rw [e2 _ (by simpa [World.setCell] using hC), e _ _ _ rfl, e _ _ _ rfl, e _ _ _ rfl, h]
theorem keep2 {w : World} {C Nb a b o : Nat} {x y v : Value} {ob : Obj} (h : w.cell? ⟨C, o, none⟩ = some v) (hC : C < w.heap.size) (hne : C ≠ Nb) :
    (((w.setCell ⟨Nb, a, none⟩ x).setCell ⟨Nb, b, none⟩ y).alloc ob).drew.cell? ⟨C, o, none⟩ = some v := by
  have e := fun (W : World) (p : Addr) (u : Value) (hp : p.block = Nb) => World.cell?_setCell_other W p ⟨C, o, none⟩ u (by rintro rfl; exact hne hp)
  have e2 := fun (W : World) (hW : C < W.heap.size) => Below.cell (((Below.refl W.heap.size W).alloc (Nat.le_refl _) ob).drew) (p := ⟨C, o, none⟩) hW
  rw [e2 _ (by simpa [World.setCell] using hC), e _ _ _ rfl, e _ _ _ rfl, h]
theorem NewAt.node {w : World} {C Nb Lb n l k b : Nat} (h : NewAt w C Nb Lb n l (k * 3) b) (o : Obj) :
    NewAt ((((w.setCell ⟨Nb, k * 3, none⟩ (.int .i64 (-1))).setCell ⟨Nb, k * 3 + 1, none⟩ (.int .i64 (-1))).setCell ⟨Nb, k * 3 + 2, none⟩ (.int .i64 (-1))).alloc o).drew C Nb Lb n l ((k + 1) * 3) b where
  rc := RowAt.drewN ((((h.rc.far (p := ⟨Nb, k * 3, none⟩) h.h1 _).far (p := ⟨Nb, k * 3 + 1, none⟩) h.h1 _).far (p := ⟨Nb, k * 3 + 2, none⟩) h.h1 _).alloc o) 1
  rl := RowAt.drewN ((((h.rl.far (p := ⟨Nb, k * 3, none⟩) (Ne.symm h.h3) _).far (p := ⟨Nb, k * 3 + 1, none⟩) (Ne.symm h.h3) _).far (p := ⟨Nb, k * 3 + 2, none⟩) (Ne.symm h.h3) _).alloc o) 1
  rn := by
    have := RowAt.drewN ((((h.rn.set_ (k * 3) (.int .i64 (-1))).set_ (k * 3 + 1) (.int .i64 (-1))).set_ (k * 3 + 2) (.int .i64 (-1))).alloc o) 1
    rwa [filled_set _ (k * 3) (fun _ => .int .i64 (-1)), filled_set _ (k * 3 + 1) (fun _ => .int .i64 (-1)), filled_set _ (k * 3 + 2) (fun _ => .int .i64 (-1)), show k * 3 + 2 + 1 = (k + 1) * 3 by omega] at this
  h1 := h.h1
  h2 := h.h2
  h3 := h.h3
theorem NewAt.list {w : World} {C Nb Lb n l k a : Nat} (h : NewAt w C Nb Lb n l a (k * 3)) (o : Obj) :
    NewAt (((w.setCell ⟨Lb, k * 3, none⟩ (.int .i64 (-1))).setCell ⟨Lb, k * 3 + 1, none⟩ (.int .i64 (-1))).alloc o).drew C Nb Lb n l a ((k + 1) * 3) where
  rc := RowAt.drewN (((h.rc.far (p := ⟨Lb, k * 3, none⟩) h.h2 _).far (p := ⟨Lb, k * 3 + 1, none⟩) h.h2 _).alloc o) 1
  rn := RowAt.drewN (((h.rn.far (p := ⟨Lb, k * 3, none⟩) h.h3 _).far (p := ⟨Lb, k * 3 + 1, none⟩) h.h3 _).alloc o) 1
  rl := by
    have := RowAt.drewN (((h.rl.set_ (k * 3) (.int .i64 (-1))).set_ (k * 3 + 1) (.int .i64 (-1))).alloc o) 1
    have e0 := filled_set (l * 3) (k * 3) lfill (.int .i64 0)
    have e1 := filled_set (l * 3) (k * 3 + 1) lfill (.int .i64 0)
    rw [lfill0] at e0
    rw [lfill1] at e1
    rwa [e0, e1, filled_same _ (k * 3 + 1 + 1) _ _ (lfill2 k), show k * 3 + 1 + 1 + 1 = (k + 1) * 3 by omega] at this
  h1 := h.h1
  h2 := h.h2
  h3 := h.h3

def NewRel1 (w : World) (C Nb Lb n l : Nat) (i : Value) (wr : World) : Prop := ∃ k : Nat, k ≤ n ∧ i = .int .i64 k ∧ NewAt wr C Nb Lb n l (k * 3) 0 ∧ Below w.heap.size w wr
def NewRel2 (w : World) (C Nb Lb n l : Nat) (i : Value) (wr : World) : Prop := ∃ k : Nat, k ≤ l ∧ i = .int .i64 k ∧ NewAt wr C Nb Lb n l (n * 3) (k * 3) ∧ Below w.heap.size w wr

set_option maxHeartbeats 4000000 in
theorem chain_New_yes (l n : Nat) (w : World) (h1 : l ≤ 1048576) (h2 : n ≤ 1048576) :
    Calls Tryz.prog 77 #[.int .i64 l, .int .i64 n] w (MadeChain w n l) := by
  have hinfo : (Tryz.prog.info? 314).map (fun i => (i.zero, i.size, i.bytes)) = some (some (.agg #[.int .i64 0, .int .i64 0, .int .i64 0]), 3, 24) := by kernel_rfl
  have hinfo2 : (Tryz.prog.info? 316).map (fun i => (i.zero, i.size, i.bytes)) = some (some (.agg #[.int .i64 0, .int .i64 0, .int .i64 0]), 3, 24) := by kernel_rfl
  have hmk := run_make_agg (P := Tryz.prog) 306 314 _ #[.int .i64 0, .int .i64 0, .int .i64 0] 3 24 Tryz.underlying306 hinfo rfl .i64 .i64 n (by omega) (by omega)
  have hmk2 := run_make_agg (P := Tryz.prog) 307 316 _ #[.int .i64 0, .int .i64 0, .int .i64 0] 3 24 Tryz.underlying307 hinfo2 rfl .i64 .i64 l (by omega) (by omega)
  rw [filled_made3 _ _ (fun _ => .int .i64 (-1))] at hmk
  rw [filled_made3 _ _ lfill] at hmk2
  clear hinfo hinfo2
  have g1 : (0 : Int) ≤ (l : Int) := by omega
  have g2 : (0 : Int) ≤ (n : Int) := by omega
  have g3 : (l : Int) ≤ 1048576 := by omega
  have g4 : (n : Int) ≤ 1048576 := by omega
  go_enter Tryz.func77, Tryz.ntmps77
  go_wp2_with fail
  go_region
  all_goals clear hmk hmk2
  · refine post_name ?_
    intro W hW
    have hN : NewAt W (w.heap.size + 1 + 1) (w.heap.size) (w.heap.size + 1) n l 0 0 := by
      rw [hW]
      have q0 := RowAt.new ((w.alloc (.cells (filled (n * 3) 0 (fun _ => .int .i64 (-1)) (.int .i64 0)).toArray 314)).alloc (.cells (filled (l * 3) 0 lfill (.int .i64 0)).toArray 316)) 309 [.slice (some ⟨w.heap.size, 0, none⟩) n n, .slice (some ⟨w.heap.size + 1, 0, none⟩) l l]
      have q1 := ((RowAt.new w 314 (filled (n * 3) 0 (fun _ => .int .i64 (-1)) (.int .i64 0))).alloc (.cells (filled (l * 3) 0 lfill (.int .i64 0)).toArray 316)).alloc (.cells #[.slice (some ⟨w.heap.size, 0, none⟩) n n, .slice (some ⟨w.heap.size + 1, 0, none⟩) l l] 309)
      have q2 := (RowAt.new (w.alloc (.cells (filled (n * 3) 0 (fun _ => .int .i64 (-1)) (.int .i64 0)).toArray 314)) 316 (filled (l * 3) 0 lfill (.int .i64 0))).alloc (.cells #[.slice (some ⟨w.heap.size, 0, none⟩) n n, .slice (some ⟨w.heap.size + 1, 0, none⟩) l l] 309)
      simp only [World.size_alloc] at q0 q1 q2
      exact { rc := q0, rn := q1, rl := q2, h1 := by omega, h2 := by omega, h3 := by omega }
    have hB : Below w.heap.size w W := by rw [hW]; exact (by repeat (first | exact Below.refl _ _ | assumption | refine bel_drew ?_ | refine bel_drewN ?_ _ | refine bel_alloc ?_ _ | refine bel_set ?_ (by first | (dsimp only; omega) | (simp; done) | (simp; omega)) _ | refine bel_trans ?_ (by assumption)))
    clear hW
    obtain ⟨C, hC⟩ : ∃ C, w.heap.size + 1 + 1 = C := ⟨_, rfl⟩
    obtain ⟨Nb, hNb⟩ : ∃ Nb, w.heap.size = Nb := ⟨_, rfl⟩
    obtain ⟨Lb, hLb⟩ : ∃ Lb, w.heap.size + 1 = Lb := ⟨_, rfl⟩
    have b1 : w.heap.size ≤ C := by omega
    have b2 : w.heap.size ≤ Nb := by omega
    have b3 : w.heap.size ≤ Lb := by omega
    rw [hC, hLb, hNb] at hN
    rw [hC]
    rw [hLb, hNb]
    clear hC hNb hLb
    have HN := Lib.hid hN
    have HB := Lib.hid hB
    have c0 : W.cell? ⟨C, 0, none⟩ = some (.slice (some ⟨Nb, 0, none⟩) n n) := by rw [hN.rc.cell]; rfl
    clear hN hB
    go_wp2_with fail
    clear c0
    go_loopw [34] (fun i wr => NewRel1 w C Nb Lb n l i wr) (fun i _ => n - (intOf i).toNat)
    case atStart => exact ⟨0, Nat.zero_le _, rfl, by simpa using HN.out, HB.out⟩
    case round =>
      clear HN HB
      obtain ⟨k, hk, rfl, hA, hbel⟩ := hrel
      have c0 : wr.cell? ⟨C, 0, none⟩ = some (.slice (some ⟨Nb, 0, none⟩) n n) := by rw [hA.rc.cell]; rfl
      have c1 : wr.cell? ⟨C, 1, none⟩ = some (.slice (some ⟨Lb, 0, none⟩) l l) := by rw [hA.rc.cell]; rfl
      have l1 := hA.rn.lt
      have l2 := hA.rc.lt
      have a1 := hA.h1
      have HA := Lib.hid hA
      have HBL := Lib.hid hbel
      have j1 : (0 : Int) ≤ (k : Int) := by omega
      by_cases hlt : (k : Int) < n
      · have s0 : wr.cell? ⟨Nb, k * 3, none⟩ = some (.int .i64 0) := by rw [hA.rn.cell, filled_get _ _ (by omega), if_neg (by omega)]
        have s1 : wr.cell? ⟨Nb, k * 3 + 1, none⟩ = some (.int .i64 0) := by rw [hA.rn.cell, filled_get _ _ (by omega), if_neg (by omega)]
        have s2 : wr.cell? ⟨Nb, k * 3 + 2, none⟩ = some (.int .i64 0) := by rw [hA.rn.cell, filled_get _ _ (by omega), if_neg (by omega)]
        have f0 : ∀ j, wr.frozen? ⟨Nb, j, none⟩ = false := hA.rn.frozen
        clear hA hbel c1
        go_wp2_with fail
        go_region_held3 (fun w' => w'.cell? ⟨C, 0, none⟩ = some (.slice (some ⟨Nb, 0, none⟩) n n)) (first | with_reducible exact keep3 c0 l2 a1 | go_keep) (first | (go_at_call 125; refine (chain_none _).mono ?_; rintro e w5 ⟨rfl, rfl⟩))
        go_wp2_with fail
        go_roundw
        case rel =>
          refine ⟨k + 1, by omega, by go_num, HA.out.node _, ?_⟩
          exact (bel_alloc (((HBL.out.setCell (by dsimp only; omega) _).setCell (by dsimp only; omega) _).setCell (by dsimp only; omega) _) _).drew
        case measure => simp [intOf]; omega
      · obtain rfl : k = n := by omega
        clear hA hbel c0
        go_wp2_with fail
        go_loopw [52] (fun i wr => NewRel2 w C Nb Lb k l i wr) (fun i _ => l - (intOf i).toNat)
        case atStart => exact ⟨0, Nat.zero_le _, rfl, by simpa using HA.out, HBL.out⟩
        case round =>
          clear HA HBL
          obtain ⟨m, hm, rfl, hA, hbel⟩ := hrel
          have c0 : wr.cell? ⟨C, 0, none⟩ = some (.slice (some ⟨Nb, 0, none⟩) k k) := by rw [hA.rc.cell]; rfl
          have c1 : wr.cell? ⟨C, 1, none⟩ = some (.slice (some ⟨Lb, 0, none⟩) l l) := by rw [hA.rc.cell]; rfl
          have l3 := hA.rl.lt
          have l2 := hA.rc.lt
          have a2 := hA.h2
          have HA := Lib.hid hA
          have HBL := Lib.hid hbel
          have j1 : (0 : Int) ≤ (m : Int) := by omega
          by_cases hlt2 : (m : Int) < l
          · have s0 : wr.cell? ⟨Lb, m * 3, none⟩ = some (.int .i64 0) := by rw [hA.rl.cell, filled_get _ _ (by omega), if_neg (by omega)]
            have s1 : wr.cell? ⟨Lb, m * 3 + 1, none⟩ = some (.int .i64 0) := by rw [hA.rl.cell, filled_get _ _ (by omega), if_neg (by omega)]
            have f0 : ∀ j, wr.frozen? ⟨Lb, j, none⟩ = false := hA.rl.frozen
            clear hA hbel c0
            go_wp2_with fail
            go_region_held3 (fun w' => w'.cell? ⟨C, 1, none⟩ = some (.slice (some ⟨Lb, 0, none⟩) l l)) (first | with_reducible exact keep2 c1 l2 a2 | go_keep) (first | (go_at_call 125; refine (chain_none _).mono ?_; rintro e w5 ⟨rfl, rfl⟩))
            go_wp2_with fail
            go_roundw
            case rel =>
              refine ⟨m + 1, by omega, by go_num, HA.out.list _, ?_⟩
              exact (bel_alloc ((HBL.out.setCell (by dsimp only; omega) _).setCell (by dsimp only; omega) _) _).drew
            case measure => simp [intOf]; omega
          · obtain rfl : m = l := by omega
            clear hA hbel c0 c1
            go_wp2_with fail
            go_ret
            exact ⟨C, Nb, Lb, rfl, HA.out, HBL.out, b1, b2, b3⟩
  · refine post_name ?_
    intro W hW
    have hN : NewAt W (w.heap.size + 1 + 1) (w.heap.size + 1) (w.heap.size) n l 0 0 := by
      rw [hW]
      have q0 := RowAt.new ((w.alloc (.cells (filled (l * 3) 0 lfill (.int .i64 0)).toArray 316)).alloc (.cells (filled (n * 3) 0 (fun _ => .int .i64 (-1)) (.int .i64 0)).toArray 314)) 309 [.slice (some ⟨w.heap.size + 1, 0, none⟩) n n, .slice (some ⟨w.heap.size, 0, none⟩) l l]
      have q1 := ((RowAt.new w 316 (filled (l * 3) 0 lfill (.int .i64 0))).alloc (.cells (filled (n * 3) 0 (fun _ => .int .i64 (-1)) (.int .i64 0)).toArray 314)).alloc (.cells #[.slice (some ⟨w.heap.size + 1, 0, none⟩) n n, .slice (some ⟨w.heap.size, 0, none⟩) l l] 309)
      have q2 := (RowAt.new (w.alloc (.cells (filled (l * 3) 0 lfill (.int .i64 0)).toArray 316)) 314 (filled (n * 3) 0 (fun _ => .int .i64 (-1)) (.int .i64 0))).alloc (.cells #[.slice (some ⟨w.heap.size + 1, 0, none⟩) n n, .slice (some ⟨w.heap.size, 0, none⟩) l l] 309)
      simp only [World.size_alloc] at q0 q1 q2
      exact { rc := q0, rl := q1, rn := q2, h1 := by omega, h2 := by omega, h3 := by omega }
    have hB : Below w.heap.size w W := by rw [hW]; exact (by repeat (first | exact Below.refl _ _ | assumption | refine bel_drew ?_ | refine bel_drewN ?_ _ | refine bel_alloc ?_ _ | refine bel_set ?_ (by first | (dsimp only; omega) | (simp; done) | (simp; omega)) _ | refine bel_trans ?_ (by assumption)))
    clear hW
    obtain ⟨C, hC⟩ : ∃ C, w.heap.size + 1 + 1 = C := ⟨_, rfl⟩
    obtain ⟨Nb, hNb⟩ : ∃ Nb, w.heap.size + 1 = Nb := ⟨_, rfl⟩
    obtain ⟨Lb, hLb⟩ : ∃ Lb, w.heap.size = Lb := ⟨_, rfl⟩
    have b1 : w.heap.size ≤ C := by omega
    have b2 : w.heap.size ≤ Nb := by omega
    have b3 : w.heap.size ≤ Lb := by omega
    rw [hC, hNb, hLb] at hN
    rw [hC]
    rw [hNb, hLb]
    clear hC hNb hLb
    have HN := Lib.hid hN
    have HB := Lib.hid hB
    have c0 : W.cell? ⟨C, 0, none⟩ = some (.slice (some ⟨Nb, 0, none⟩) n n) := by rw [hN.rc.cell]; rfl
    clear hN hB
    go_wp2_with fail
    clear c0
    go_loopw [34] (fun i wr => NewRel1 w C Nb Lb n l i wr) (fun i _ => n - (intOf i).toNat)
    case atStart => exact ⟨0, Nat.zero_le _, rfl, by simpa using HN.out, HB.out⟩
    case round =>
      clear HN HB
      obtain ⟨k, hk, rfl, hA, hbel⟩ := hrel
      have c0 : wr.cell? ⟨C, 0, none⟩ = some (.slice (some ⟨Nb, 0, none⟩) n n) := by rw [hA.rc.cell]; rfl
      have c1 : wr.cell? ⟨C, 1, none⟩ = some (.slice (some ⟨Lb, 0, none⟩) l l) := by rw [hA.rc.cell]; rfl
      have l1 := hA.rn.lt
      have l2 := hA.rc.lt
      have a1 := hA.h1
      have HA := Lib.hid hA
      have HBL := Lib.hid hbel
      have j1 : (0 : Int) ≤ (k : Int) := by omega
      by_cases hlt : (k : Int) < n
      · have s0 : wr.cell? ⟨Nb, k * 3, none⟩ = some (.int .i64 0) := by rw [hA.rn.cell, filled_get _ _ (by omega), if_neg (by omega)]
        have s1 : wr.cell? ⟨Nb, k * 3 + 1, none⟩ = some (.int .i64 0) := by rw [hA.rn.cell, filled_get _ _ (by omega), if_neg (by omega)]
        have s2 : wr.cell? ⟨Nb, k * 3 + 2, none⟩ = some (.int .i64 0) := by rw [hA.rn.cell, filled_get _ _ (by omega), if_neg (by omega)]
        have f0 : ∀ j, wr.frozen? ⟨Nb, j, none⟩ = false := hA.rn.frozen
        clear hA hbel c1
        go_wp2_with fail
        go_region_held3 (fun w' => w'.cell? ⟨C, 0, none⟩ = some (.slice (some ⟨Nb, 0, none⟩) n n)) (first | with_reducible exact keep3 c0 l2 a1 | go_keep) (first | (go_at_call 125; refine (chain_none _).mono ?_; rintro e w5 ⟨rfl, rfl⟩))
        go_wp2_with fail
        go_roundw
        case rel =>
          refine ⟨k + 1, by omega, by go_num, HA.out.node _, ?_⟩
          exact (bel_alloc (((HBL.out.setCell (by dsimp only; omega) _).setCell (by dsimp only; omega) _).setCell (by dsimp only; omega) _) _).drew
        case measure => simp [intOf]; omega
      · obtain rfl : k = n := by omega
        clear hA hbel c0
        go_wp2_with fail
        go_loopw [52] (fun i wr => NewRel2 w C Nb Lb k l i wr) (fun i _ => l - (intOf i).toNat)
        case atStart => exact ⟨0, Nat.zero_le _, rfl, by simpa using HA.out, HBL.out⟩
        case round =>
          clear HA HBL
          obtain ⟨m, hm, rfl, hA, hbel⟩ := hrel
          have c0 : wr.cell? ⟨C, 0, none⟩ = some (.slice (some ⟨Nb, 0, none⟩) k k) := by rw [hA.rc.cell]; rfl
          have c1 : wr.cell? ⟨C, 1, none⟩ = some (.slice (some ⟨Lb, 0, none⟩) l l) := by rw [hA.rc.cell]; rfl
          have l3 := hA.rl.lt
          have l2 := hA.rc.lt
          have a2 := hA.h2
          have HA := Lib.hid hA
          have HBL := Lib.hid hbel
          have j1 : (0 : Int) ≤ (m : Int) := by omega
          by_cases hlt2 : (m : Int) < l
          · have s0 : wr.cell? ⟨Lb, m * 3, none⟩ = some (.int .i64 0) := by rw [hA.rl.cell, filled_get _ _ (by omega), if_neg (by omega)]
            have s1 : wr.cell? ⟨Lb, m * 3 + 1, none⟩ = some (.int .i64 0) := by rw [hA.rl.cell, filled_get _ _ (by omega), if_neg (by omega)]
            have f0 : ∀ j, wr.frozen? ⟨Lb, j, none⟩ = false := hA.rl.frozen
            clear hA hbel c0
            go_wp2_with fail
            go_region_held3 (fun w' => w'.cell? ⟨C, 1, none⟩ = some (.slice (some ⟨Lb, 0, none⟩) l l)) (first | with_reducible exact keep2 c1 l2 a2 | go_keep) (first | (go_at_call 125; refine (chain_none _).mono ?_; rintro e w5 ⟨rfl, rfl⟩))
            go_wp2_with fail
            go_roundw
            case rel =>
              refine ⟨m + 1, by omega, by go_num, HA.out.list _, ?_⟩
              exact (bel_alloc ((HBL.out.setCell (by dsimp only; omega) _).setCell (by dsimp only; omega) _) _).drew
            case measure => simp [intOf]; omega
          · obtain rfl : m = l := by omega
            clear hA hbel c0 c1
            go_wp2_with fail
            go_ret
            exact ⟨C, Nb, Lb, rfl, HA.out, HBL.out, b1, b2, b3⟩
end Go.Proofs.Cw
end

section
/- chain.New: what the evaluator does, out of its walk. -/
namespace Go.Ev
open Go Go.Proofs.Cw
open Go.RowKit (Below)
set_option linter.unusedVariables false
set_option linter.unusedSimpArgs false
section
variable {P : Program} {C : Ctx} {ρ ρ₀ : Ren}

/-- A new block gets its name later. -/
theorem HeapRel.named {h₀ h h' : Heap} {w₀ w' : World} {o : O} {B : Blk} (r₀ : HeapRel P C ρ₀ h₀ w₀) (r : HeapRel P C ρ h w') (hL : Le ρ₀ h₀ w₀ ρ h w')
    (hb : w₀.heap.size ≤ B.b) (hb2 : B.b < w'.heap.size) (hfree : ∀ i D, ρ i = some D → D.b ≠ B.b) (hn : h'.nx = h.nx + 1) (hg : ∀ j, hget j h' = if j = h.nx then o else hget j h)
    (ho : ObjRel P (ext1 ρ h.nx B) o B w'.heap[B.b]?) :
    HeapRel P C (ext1 ρ h.nx B) h' w' ∧ Le ρ₀ h₀ w₀ (ext1 ρ h.nx B) h' w' := by
  have hren : ∀ i D, ρ i = some D → ext1 ρ h.nx B i = some D := fun i D hi => by
    unfold ext1
    rw [if_neg (by have := (r.dom i D hi).1; omega)]; exact hi
  have hold : ∀ j D, j ≠ h.nx → ext1 ρ h.nx B j = some D → ρ j = some D := fun j D hj hD => by
    unfold ext1 at hD; rw [if_neg hj] at hD; exact hD
  have hnew : ∀ D, ext1 ρ h.nx B h.nx = some D → D = B := fun D hD => by
    unfold ext1 at hD; rw [if_pos rfl] at hD; cases hD; rfl
  have hnx := hL.nx
  refine ⟨⟨fun i D hi => ?_, fun i D hi => ?_, fun i j D E hi hj li lj he => ?_, fun g cs hgl => ?_⟩, ⟨fun i D hi => hren i D (hL.ren i D hi), hL.size, fun b hb' hm => ⟨(hL.frame b hb' hm).1, ?_⟩, by omega, fun i hi h0 => ?_, hL.aside⟩⟩
  · by_cases h1 : i = h.nx
    · subst h1; rw [hnew D hi]; exact ⟨by omega, hb2⟩
    · have := r.dom i D (hold i D h1 hi)
      exact ⟨by omega, this.2⟩
  · by_cases h1 : i = h.nx
    · subst h1; rw [hnew D hi, hg, if_pos rfl]; exact ho
    · rw [hg, if_neg h1]
      exact (r.obj i D (hold i D h1 hi)).mono hren
  · by_cases h1 : i = h.nx <;> by_cases h2 : j = h.nx
    · rw [h1, h2]
    · subst h1; rw [hnew D hi] at he
      exact absurd he.symm (hfree j E (hold j E h2 hj))
    · subst h2; rw [hnew E hj] at he
      exact absurd he (hfree i D (hold i D h1 hi))
    · rw [hg, if_neg h1] at li; rw [hg, if_neg h2] at lj
      exact r.inj i j D E (hold i D h1 hi) (hold j E h2 hj) li lj he
  · obtain ⟨g1, xs, t, fr, h2, h3⟩ := r.glob g cs hgl
    obtain ⟨g2, xs0, t0, fr0, h20, _⟩ := r₀.glob g cs hgl
    have hgs : g < w₀.heap.size := by
      rcases Nat.lt_or_ge g w₀.heap.size with h | h
      · exact h
      · rw [Array.getElem?_eq_none h] at h20; cases h20
    refine ⟨fun i D hi => ?_, xs, t, fr, h2, fun j v hv => let ⟨x, a, b⟩ := h3 j v hv; ⟨x, a, b.mono hren⟩⟩
    by_cases h1 : i = h.nx
    · subst h1; rw [hnew D hi]; omega
    · exact g1 i D (hold i D h1 hi)
  · rintro ⟨i, D, hi, he, hl⟩
    by_cases h1 : i = h.nx
    · subst h1; rw [hnew D hi] at he; omega
    · rw [hg, if_neg h1] at hl
      exact (hL.frame b hb' hm).2 ⟨i, D, hold i D h1 hi, he, hl⟩
  · obtain ⟨f1, f2⟩ := hL.fresh i hi h0
    refine ⟨by rw [hg, if_neg (by omega)]; exact f1, ?_⟩
    unfold ext1; rw [if_neg (by omega)]; exact f2

/-- The machine's contract of chain.New. -/
structure ChainAt (P : Program) (f : FuncId) (tc tn tl : TypeId) : Prop where
  enters : ∀ args w, (callFunc f args).run P w = .ok (.enter f args) w
  cc : P.cellsOf tc = 2
  cn : P.cellsOf tn = 3
  cl : P.cellsOf tl = 3
  made : ∀ (l n : Nat) (w : World), l ≤ 1048576 → n ≤ 1048576 → Calls P f #[.int .i64 l, .int .i64 n] w fun e w' => ∃ c Nb Lb, e = .returned (.pointer (some ⟨c, 0, none⟩)) ∧
    (RowAt w' c tc [.slice (some ⟨Nb, 0, none⟩) n n, .slice (some ⟨Lb, 0, none⟩) l l] ∧ RowAt w' Nb tn (filled (n * 3) (n * 3) (fun _ => .int .i64 (-1)) (.int .i64 0)) ∧ RowAt w' Lb tl (filled (l * 3) (l * 3) lfill (.int .i64 0)) ∧ c ≠ Nb ∧ c ≠ Lb ∧ Nb ≠ Lb) ∧
    Below w.heap.size w w' ∧ w.heap.size ≤ c ∧ w.heap.size ≤ Nb ∧ w.heap.size ≤ Lb

/-- A row of a pattern of three. -/
theorem row3 {w : World} {b t n : Nat} {z : List V} {f : Nat → Value} {z0 : Value} {c : Cells} (hb : RowAt w b t (filled (n * 3) (n * 3) f z0)) (hc : P.cellsOf t = 3) (he : emptyCells c) (hz : z.length = 3) (h1 : ∀ v ∈ z, v.isOne = true)
    (hf : ∀ j v, z[j % 3]? = some v → RelV ρ v (f j)) : ObjRel P ρ (.row t (n * 3) 0 true z c) ⟨b, n, 3⟩ w.heap[b]? := by
  rw [show w.heap[b]? = _ from hb]
  have hsz : ((filled (n * 3) (n * 3) f z0).toArray).size = n * 3 := by simp [filled_len]
  refine ⟨_, (0, 0), rfl, hsz, hc, by omega, fun _ => hsz.symm, fun j _ _ => by simp, fun j hj => ?_⟩
  have hm : j % 3 < z.length := by omega
  refine ⟨z[j % 3], f j, by rw [cellV_empty he, hz, List.getElem?_eq_getElem hm], ?_, h1 _ (List.getElem_mem hm), hf j _ (List.getElem?_eq_getElem hm)⟩
  rw [List.getElem?_toArray, filled_get _ _ hj, if_pos hj]

theorem ext_chainNew {f : FuncId} {tc tn tl : Nat} (hf : ChainAt P f tc tn tl) : ExtSound P C (.chainNew tc tn tl) f := by
  intro args h k ρ xs w hx hr hH
  obtain ⟨v, x, u, y, hl, hv, hu, hx⟩ := argL2 hr hx
  obtain ⟨l, rfl, hx⟩ := onK_rel hv hx
  rcases frcI_true.1 hx with ⟨l, rfl, hx⟩ | ⟨_, _, hx⟩
  case inr => exact absurd hx Bool.false_ne_true
  obtain ⟨n, rfl, hx⟩ := onK_rel hu hx
  rcases frcI_true.1 hx with ⟨n, rfl, hx⟩ | ⟨_, _, hx⟩
  case inr => exact absurd hx Bool.false_ne_true
  obtain ⟨hl1, hx⟩ := ifb_and.1 hx
  obtain ⟨hn1, hx⟩ := ifb_and.1 hx
  have hl1 := Nat.le_of_ble_eq_true hl1
  have hn1 := Nat.le_of_ble_eq_true hn1
  rw [frc_eq, frc_eq] at hx
  obtain ⟨cn, hx, hcn⟩ := emptyC_spec hx
  obtain ⟨cl, hx, hcl⟩ := emptyC_spec hx
  obtain ⟨cc, hx, hcc⟩ := emptyC_spec hx
  obtain ⟨h1, hx, n1, g1⟩ := hnew_spec hx
  obtain ⟨h2, hx, n2, g2⟩ := hnew_spec hx
  obtain ⟨c2, hx, hc2⟩ := layC_spec hx
  obtain ⟨h3, hx, n3, g3⟩ := hnew_spec hx
  refine .inr ⟨hf.enters _ _, (callsIn_wide (n := 0)).2 ?_⟩
  rw [arr_of hl]
  refine (hf.made l n w (by omega) (by omega)).mono ?_
  rintro e w' ⟨c, Nb, Lb, rfl, ⟨rc, rn, rl, d1, d2, d3⟩, hbl, b1, b2, b3⟩
  obtain ⟨H0, L0⟩ := hH.below hbl
  have f1 : ∀ i D, ρ i = some D → D.b < w.heap.size := fun i D hi => (hH.dom i D hi).2
  obtain ⟨H1, L1⟩ := hH.named (B := ⟨Nb, n, 3⟩) H0 L0 b2 rn.lt (fun i D hi => by have := f1 i D hi; show D.b ≠ Nb; omega) n1 g1 (row3 rn hf.cn hcn rfl (by intro v hv; simp at hv; subst hv; rfl) (fun j v hv => by
    have : j % 3 = 0 ∨ j % 3 = 1 ∨ j % 3 = 2 := by omega
    rcases this with e | e | e <;> (rw [e] at hv; simp at hv; subst hv; exact .ik _ _)))
  have f2 : ∀ i D, ext1 ρ h.nx ⟨Nb, n, 3⟩ i = some D → D.b < w.heap.size ∨ D.b = Nb := fun i D hi => by
    unfold ext1 at hi
    split at hi
    · cases hi; exact .inr rfl
    · exact .inl (f1 i D hi)
  obtain ⟨H2, L2⟩ := hH.named (B := ⟨Lb, l, 3⟩) H1 L1 b3 rl.lt (fun i D hi => by show D.b ≠ Lb; rcases f2 i D hi with h | h <;> omega) n2 g2 (row3 rl hf.cl hcl rfl (by intro v hv; simp at hv; rcases hv with rfl | rfl <;> rfl) (fun j v hv => by
    have : j % 3 = 0 ∨ j % 3 = 1 ∨ j % 3 = 2 := by omega
    rcases this with e | e | e
    · rw [e] at hv; simp at hv; subst hv; unfold lfill; rw [if_neg (by omega)]; exact .ik _ _
    · rw [e] at hv; simp at hv; subst hv; unfold lfill; rw [if_neg (by omega)]; exact .ik _ _
    · rw [e] at hv; simp at hv; subst hv; unfold lfill; rw [if_pos e]; exact .num 0 (by unfold maxI; omega)))
  have f3 : ∀ i D, ext1 (ext1 ρ h.nx ⟨Nb, n, 3⟩) h1.nx ⟨Lb, l, 3⟩ i = some D → D.b < w.heap.size ∨ D.b = Nb ∨ D.b = Lb := fun i D hi => by
    unfold ext1 at hi
    split at hi
    · cases hi; exact .inr (.inr rfl)
    · rcases f2 i D hi with h | h
      · exact .inl h
      · exact .inr (.inl h)
  obtain ⟨H3, L3⟩ := hH.named (B := ⟨c, 1, 2⟩) (o := .row tc 2 0 true [.nils] c2) H2 L2 b1 rc.lt (fun i D hi => by show D.b ≠ c; rcases f3 i D hi with h | h | h <;> omega) n3 g3 (by
    show ObjRel P _ _ _ w'.heap[c]?
    rw [show w'.heap[c]? = _ from rc]
    refine ⟨_, (0, 0), rfl, rfl, hf.cc, Nat.le_refl _, fun _ => rfl, fun j _ _ => by simp, fun j hj => ?_⟩
    have hj : j = 0 ∨ j = 1 := by omega
    have e1 : ext1 (ext1 (ext1 ρ h.nx ⟨Nb, n, 3⟩) h1.nx ⟨Lb, l, 3⟩) h2.nx ⟨c, 1, 2⟩ h.nx = some ⟨Nb, n, 3⟩ := by
      unfold ext1; rw [if_neg (by omega), if_neg (by omega), if_pos rfl]
    have e2 : ext1 (ext1 (ext1 ρ h.nx ⟨Nb, n, 3⟩) h1.nx ⟨Lb, l, 3⟩) h2.nx ⟨c, 1, 2⟩ h1.nx = some ⟨Lb, l, 3⟩ := by
      unfold ext1; rw [if_neg (by omega), if_pos rfl]
    rcases hj with rfl | rfl
    · refine ⟨.sl h.nx 0 n (.known n), .slice (some ⟨Nb, 0, none⟩) n n, cellV_set (by rw [hc2]; rfl) (by simp), rfl, rfl, ?_⟩
      exact .sl _ _ _ _ _ ⟨Nb, n, 3⟩ e1 rfl (Nat.le_refl _)
    · refine ⟨.sl h1.nx 0 l (.known l), .slice (some ⟨Lb, 0, none⟩) l l, cellV_set (by rw [hc2]; rfl) (by simp), rfl, rfl, ?_⟩
      exact .sl _ _ _ _ _ ⟨Lb, l, 3⟩ e2 rfl (Nat.le_refl _))
  exact ⟨_, rfl, .ptr h2.nx 0, h3, _, hx, .ptr _ _ ⟨c, 1, 2⟩ (by unfold ext1; rw [if_pos rfl]), H3, L3⟩

theorem x77 : ExtSound Go.Proofs.Tryz.prog C (.chainNew 309 314 316) 77 := by
  refine ext_chainNew ⟨Go.Proofs.enters_of Go.Proofs.Tryz.func77 (by kernel_rfl) rfl, by kernel_rfl, by kernel_rfl, by kernel_rfl, fun l n w h1 h2 => ?_⟩
  refine (chain_New_yes l n w h1 h2).mono ?_
  rintro e w' ⟨c, Nb, Lb, rfl, hN, hb, b1, b2, b3⟩
  exact ⟨c, Nb, Lb, rfl, ⟨hN.rc, hN.rn, hN.rl, hN.h1, hN.h2, hN.h3⟩, hb, b1, b2, b3⟩
end
end Go.Ev
end

section
/- slices.Sorted[int] over maps.Keys, at the seat. -/
open Go Go.Ev Go.Proofs
namespace Go.Proofs
open Go.RowKit Go.Maps Go.Sort Go.Shelf
set_option maxRecDepth 100000
def Tryz.iterA_ren : Go.Shelf.Ren := ⟨fun | 10 => 59 | n => n, fun | 33 => 185 | 23 => 100 | 0 => 0 | 4 => 4 | 26 => 3 | 3 => 101 | n => n, fun | n => n⟩
theorem Tryz.iterA : Go.Proofs.SlLaysZI.n10 Tryz.prog Tryz.iterA_ren := {
  mixed := by kernel_rfl
  f10 := ⟨Tryz.f59.name, by decide, Tryz.func59.trans (congrArg some (by kernel_rfl))⟩
  t0 := Tryz.underlying0
  a0 := Tryz.isAgg0
  z0 := Tryz.sizeOf0
  v0 := Tryz.zeroValue0
  t4 := Tryz.underlying4
  a4 := Tryz.isAgg4
  z4 := Tryz.sizeOf4
  v4 := Tryz.zeroValue4
  t23 := Tryz.underlying100
  a23 := Tryz.isAgg100
  z23 := Tryz.sizeOf100
  v23 := Tryz.zeroValue100
  t26 := Tryz.underlying3
  a26 := Tryz.isAgg3
  z26 := Tryz.sizeOf3
  v26 := Tryz.zeroValue3
  t33 := Tryz.underlying185
  a33 := Tryz.isAgg185
  z33 := Tryz.sizeOf185
  v33 := Tryz.zeroValue185 }
def Tryz.iterB_ren : Go.Shelf.Ren := ⟨fun | 10 => 102 | n => n, fun | 33 => 185 | 23 => 179 | 0 => 0 | 4 => 4 | 26 => 3 | 3 => 183 | n => n, fun | n => n⟩
theorem Tryz.iterB : Go.Proofs.SlLaysZI.n10 Tryz.prog Tryz.iterB_ren := {
  mixed := by kernel_rfl
  f10 := ⟨Tryz.f102.name, by decide, Tryz.func102.trans (congrArg some (by kernel_rfl))⟩
  t0 := Tryz.underlying0
  a0 := Tryz.isAgg0
  z0 := Tryz.sizeOf0
  v0 := Tryz.zeroValue0
  t4 := Tryz.underlying4
  a4 := Tryz.isAgg4
  z4 := Tryz.sizeOf4
  v4 := Tryz.zeroValue4
  t23 := Tryz.underlying179
  a23 := Tryz.isAgg179
  z23 := Tryz.sizeOf179
  v23 := Tryz.zeroValue179
  t26 := Tryz.underlying3
  a26 := Tryz.isAgg3
  z26 := Tryz.sizeOf3
  v26 := Tryz.zeroValue3
  t33 := Tryz.underlying185
  a33 := Tryz.isAgg185
  z33 := Tryz.sizeOf185
  v33 := Tryz.zeroValue185 }
def Tryz.iterC_ren : Go.Shelf.Ren := ⟨fun | 10 => 245 | n => n, fun | 33 => 185 | 23 => 317 | 0 => 0 | 4 => 4 | 26 => 3 | 3 => 4 | n => n, fun | n => n⟩
theorem Tryz.iterC : Go.Proofs.SlLaysZI.n10 Tryz.prog Tryz.iterC_ren := {
  mixed := by kernel_rfl
  f10 := ⟨Tryz.f245.name, by decide, Tryz.func245.trans (congrArg some (by kernel_rfl))⟩
  t0 := Tryz.underlying0
  a0 := Tryz.isAgg0
  z0 := Tryz.sizeOf0
  v0 := Tryz.zeroValue0
  t4 := Tryz.underlying4
  a4 := Tryz.isAgg4
  z4 := Tryz.sizeOf4
  v4 := Tryz.zeroValue4
  t23 := Tryz.underlying317
  a23 := Tryz.isAgg317
  z23 := Tryz.sizeOf317
  v23 := Tryz.zeroValue317
  t26 := Tryz.underlying3
  a26 := Tryz.isAgg3
  z26 := Tryz.sizeOf3
  v26 := Tryz.zeroValue3
  t33 := Tryz.underlying185
  a33 := Tryz.isAgg185
  z33 := Tryz.sizeOf185
  v33 := Tryz.zeroValue185 }
def Tryz.iterD_ren : Go.Shelf.Ren := ⟨fun | 10 => 561 | n => n, fun | 33 => 185 | 23 => 189 | 0 => 0 | 4 => 4 | 26 => 3 | 3 => 3 | n => n, fun | n => n⟩
theorem Tryz.iterD : Go.Proofs.SlLaysZI.n10 Tryz.prog Tryz.iterD_ren := {
  mixed := by kernel_rfl
  f10 := ⟨Tryz.f561.name, by decide, Tryz.func561.trans (congrArg some (by kernel_rfl))⟩
  t0 := Tryz.underlying0
  a0 := Tryz.isAgg0
  z0 := Tryz.sizeOf0
  v0 := Tryz.zeroValue0
  t4 := Tryz.underlying4
  a4 := Tryz.isAgg4
  z4 := Tryz.sizeOf4
  v4 := Tryz.zeroValue4
  t23 := Tryz.underlying189
  a23 := Tryz.isAgg189
  z23 := Tryz.sizeOf189
  v23 := Tryz.zeroValue189
  t26 := Tryz.underlying3
  a26 := Tryz.isAgg3
  z26 := Tryz.sizeOf3
  v26 := Tryz.zeroValue3
  t33 := Tryz.underlying185
  a33 := Tryz.isAgg185
  z33 := Tryz.sizeOf185
  v33 := Tryz.zeroValue185 }
def Tryz.sortedA_ren : Go.Shelf.Ren := ⟨fun | 6 => 31 | 8 => 57 | 9 => 58 | 11 => 103 | 13 => 105 | 12 => 104 | 23 => 169 | 24 => 170 | 14 => 160 | 15 => 161 | 16 => 162 | 17 => 163 | 18 => 164 | 19 => 165 | 20 => 166 | 21 => 167 | 22 => 168 | 25 => 246 | 26 => 247 | 27 => 248 | 28 => 249 | 29 => 250 | 30 => 251 | 31 => 330 | n => n, fun | 26 => 3 | 28 => 98 | 24 => 28 | 0 => 0 | 3 => 3 | 37 => 68 | 48 => 239 | 50 => 366 | 4 => 4 | 40 => 358 | 39 => 357 | 45 => 43 | 5 => 5 | 9 => 9 | 51 => 442 | 55 => 205 | 57 => 506 | 58 => 507 | 33 => 185 | n => n, fun | n => n⟩
theorem Tryz.sortedA : Go.Proofs.SlLaysZI.n6 Tryz.prog Tryz.sortedA_ren := {
  mixed := by kernel_rfl
  f6 := ⟨Tryz.f31.name, by decide, Tryz.func31.trans (congrArg some (by kernel_rfl))⟩
  f8 := ⟨Tryz.f57.name, by decide, Tryz.func57.trans (congrArg some (by kernel_rfl))⟩
  f11 := ⟨Tryz.f103.name, by decide, Tryz.func103.trans (congrArg some (by kernel_rfl))⟩
  t0 := Tryz.underlying0
  a0 := Tryz.isAgg0
  z0 := Tryz.sizeOf0
  v0 := Tryz.zeroValue0
  t24 := Tryz.underlying28
  a24 := Tryz.isAgg28
  z24 := Tryz.sizeOf28
  v24 := Tryz.zeroValue28
  t26 := Tryz.underlying3
  a26 := Tryz.isAgg3
  z26 := Tryz.sizeOf3
  v26 := Tryz.zeroValue3
  t28 := Tryz.underlying98
  a28 := Tryz.isAgg98
  z28 := Tryz.sizeOf98
  v28 := Tryz.zeroValue98
  i26 := by kernel_rfl }
def Tryz.sortA_ren : Go.Shelf.Ren := ⟨fun | 5 => 58 | 8 => 105 | 7 => 104 | 19 => 169 | 20 => 170 | 10 => 160 | 11 => 161 | 12 => 162 | 13 => 163 | 14 => 164 | 15 => 165 | 16 => 166 | 17 => 167 | 18 => 168 | 30 => 246 | 31 => 247 | 32 => 248 | 33 => 249 | 34 => 250 | 35 => 251 | 40 => 330 | n => n, fun | 23 => 28 | 25 => 3 | 3 => 3 | 32 => 68 | 22 => 28 | 0 => 0 | 44 => 239 | 46 => 366 | 4 => 4 | 36 => 358 | 35 => 357 | 41 => 43 | 5 => 5 | 9 => 9 | 53 => 442 | 57 => 205 | 63 => 506 | 64 => 507 | n => n, fun | n => n⟩
theorem Tryz.sortA : Go.Proofs.SlLaysM.n5 Tryz.prog Tryz.sortA_ren := {
  mixed := by kernel_rfl
  f5 := ⟨Tryz.f58.name, by decide, Tryz.func58.trans (congrArg some (by kernel_rfl))⟩
  f7 := ⟨Tryz.f104.name, by decide, Tryz.func104.trans (congrArg some (by kernel_rfl))⟩
  f8 := Tryz.func105.trans (congrArg some (by kernel_rfl))
  f10 := ⟨Tryz.f160.name, by decide, Tryz.func160.trans (congrArg some (by kernel_rfl))⟩
  f11 := ⟨Tryz.f161.name, by decide, Tryz.func161.trans (congrArg some (by kernel_rfl))⟩
  f12 := ⟨Tryz.f162.name, by decide, Tryz.func162.trans (congrArg some (by kernel_rfl))⟩
  f13 := ⟨Tryz.f163.name, by decide, Tryz.func163.trans (congrArg some (by kernel_rfl))⟩
  f14 := ⟨Tryz.f164.name, by decide, Tryz.func164.trans (congrArg some (by kernel_rfl))⟩
  f15 := ⟨Tryz.f165.name, by decide, Tryz.func165.trans (congrArg some (by kernel_rfl))⟩
  f16 := ⟨Tryz.f166.name, by decide, Tryz.func166.trans (congrArg some (by kernel_rfl))⟩
  f17 := ⟨Tryz.f167.name, by decide, Tryz.func167.trans (congrArg some (by kernel_rfl))⟩
  f18 := ⟨Tryz.f168.name, by decide, Tryz.func168.trans (congrArg some (by kernel_rfl))⟩
  f19 := Tryz.func169.trans (congrArg some (by kernel_rfl))
  f20 := Tryz.func170.trans (congrArg some (by kernel_rfl))
  f30 := ⟨Tryz.f246.name, by decide, Tryz.func246.trans (congrArg some (by kernel_rfl))⟩
  f31 := Tryz.func247.trans (congrArg some (by kernel_rfl))
  f32 := Tryz.func248.trans (congrArg some (by kernel_rfl))
  f33 := ⟨Tryz.f249.name, by decide, Tryz.func249.trans (congrArg some (by kernel_rfl))⟩
  f34 := ⟨Tryz.f250.name, by decide, Tryz.func250.trans (congrArg some (by kernel_rfl))⟩
  f35 := ⟨Tryz.f251.name, by decide, Tryz.func251.trans (congrArg some (by kernel_rfl))⟩
  f40 := ⟨Tryz.f330.name, by decide, Tryz.func330.trans (congrArg some (by kernel_rfl))⟩
  t0 := Tryz.underlying0
  a0 := Tryz.isAgg0
  z0 := Tryz.sizeOf0
  v0 := Tryz.zeroValue0
  t3 := Tryz.underlying3
  a3 := Tryz.isAgg3
  z3 := Tryz.sizeOf3
  v3 := Tryz.zeroValue3
  t4 := Tryz.underlying4
  a4 := Tryz.isAgg4
  z4 := Tryz.sizeOf4
  v4 := Tryz.zeroValue4
  t5 := Tryz.underlying5
  a5 := Tryz.isAgg5
  z5 := Tryz.sizeOf5
  v5 := Tryz.zeroValue5
  t9 := Tryz.underlying9
  a9 := Tryz.isAgg9
  z9 := Tryz.sizeOf9
  v9 := Tryz.zeroValue9
  t22 := Tryz.underlying28
  a22 := Tryz.isAgg28
  z22 := Tryz.sizeOf28
  v22 := Tryz.zeroValue28
  t23 := Tryz.underlying28
  a23 := Tryz.isAgg28
  z23 := Tryz.sizeOf28
  v23 := Tryz.zeroValue28
  t25 := Tryz.underlying3
  a25 := Tryz.isAgg3
  z25 := Tryz.sizeOf3
  v25 := Tryz.zeroValue3
  t32 := Tryz.underlying68
  a32 := Tryz.isAgg68
  z32 := Tryz.sizeOf68
  v32 := Tryz.zeroValue68
  t35 := Tryz.underlying357
  a35 := Tryz.isAgg357
  z35 := Tryz.sizeOf357
  v35 := Tryz.zeroValue357
  t36 := Tryz.underlying358
  a36 := Tryz.isAgg358
  z36 := Tryz.sizeOf358
  v36 := Tryz.zeroValue358
  t41 := Tryz.underlying43
  a41 := Tryz.isAgg43
  z41 := Tryz.sizeOf43
  v41 := Tryz.zeroValue43
  t44 := Tryz.underlying239
  a44 := Tryz.isAgg239
  z44 := Tryz.sizeOf239
  v44 := Tryz.zeroValue239
  t46 := Tryz.underlying366
  a46 := Tryz.isAgg366
  z46 := Tryz.sizeOf366
  v46 := Tryz.zeroValue366
  t53 := Tryz.underlying442
  a53 := Tryz.isAgg442
  z53 := Tryz.sizeOf442
  v53 := Tryz.zeroValue442
  t57 := Tryz.underlying205
  a57 := Tryz.isAgg205
  z57 := Tryz.sizeOf205
  v57 := Tryz.zeroValue205
  t63 := Tryz.underlying506
  a63 := Tryz.isAgg506
  z63 := Tryz.sizeOf506
  v63 := Tryz.zeroValue506
  t64 := Tryz.underlying507
  a64 := Tryz.isAgg507
  z64 := Tryz.sizeOf507
  v64 := Tryz.zeroValue507 }

theorem Tryz.sortsA (m : Nat) : AnyZI.SortsIn Tryz.prog Tryz.sortedA_ren Fence.wide m :=
  ⟨fun blk off cap ss W hH hblk hsz => callsIn_wide.2 (AnyM.slices_Sort_int Tryz.sortA blk off cap ss W hH hblk hsz),
   fun p cap W => callsIn_wide.2 (AnyM.slices_Sort_int_none Tryz.sortA p cap W)⟩
end Go.Proofs
namespace Go.Ev
open Go.RowKit Go.Maps Go.Sort Go.Shelf
theorem sorted_at (g : FuncId) (hu : Tryz.prog.underlying 3 = some (.int .i64)) (h1 : Tryz.prog.cellsOf 3 = 1) (e58 : ∀ args w, (callFunc 58 args).run Tryz.prog w = .ok (.enter 58 args) w) (e31 : ∀ args w, (callFunc 31 args).run Tryz.prog w = .ok (.enter 31 args) w)
    (eg : ∀ args w, (callFunc g args).run Tryz.prog w = .ok (.enter g args) w)
    (hfull : ∀ (b nn Bm : Nat) (D0 : DataW Unit) (R : Value → Option (DataW Unit × List MemPlace)) (w : World), w.ownsMap Tryz.prog 3 R b nn D0 → Bm < w.heap.size → w.cell? ⟨Bm, 0, none⟩ = some (.map (some b)) → SeqGives Fence.wide 2 Tryz.prog g #[.pointer (some ⟨Bm, 0, none⟩)] encZ (fun ss => ss.Perm (intKeys D0)) (Maps.size D0) w)
    (hnone : ∀ (Bm : Nat) (w : World), Bm < w.heap.size → w.cell? ⟨Bm, 0, none⟩ = some (.map none) → SeqGives Fence.wide 2 Tryz.prog g #[.pointer (some ⟨Bm, 0, none⟩)] encZ (fun ss : List Int => ss = []) 0 w) :
    SortedAt Tryz.prog 31 g 3 where
  key := hu
  one := h1
  enters := e31
  full := by
    intro b nn Bm D0 R w hown hsz hBm hc
    exact (callsIn_wide (n := 5)).1 (AnyZI.sorted_in Tryz.sortedA Fence.wide 5 trivial trivial trivial trivial rfl (by omega) (Tryz.sortsA _) e58 g _ trivial eg _ _ (by simp [maxLen]; omega) (by omega) w (hfull b nn Bm D0 R w hown hBm hc))
  none := by
    intro Bm w hBm hc
    refine (callsIn_wide (n := 5)).1 ((AnyZI.sorted_in Tryz.sortedA Fence.wide 5 trivial trivial trivial trivial rfl (by omega) (Tryz.sortsA _) e58 g _ trivial eg _ 0 (Nat.zero_le _) (by omega) w (hnone Bm w hBm hc)).mono ?_)
    rintro e w' ⟨v, ss, rfl, rfl, hrow, hnil, hb⟩
    obtain rfl : v = .slice none 0 0 := hnil.2 rfl
    exact ⟨rfl, hb⟩
theorem x31 {C : Ctx} : ExtSound Tryz.prog C (.sorted 3 [59, 102, 245, 561]) 31 := by
  have hu : Tryz.prog.underlying 3 = some (.int .i64) := by kernel_rfl
  have h1 : Tryz.prog.cellsOf 3 = 1 := by kernel_rfl
  have e58 := enters_of Tryz.func58 (by kernel_rfl) rfl
  have e31 := enters_of Tryz.func31 (by kernel_rfl) rfl
  refine ext_sorted fun g hg => ?_
  simp only [List.mem_cons, List.not_mem_nil, or_false] at hg
  rcases hg with rfl | rfl | rfl | rfl
  · exact sorted_at 59 hu h1 e58 e31 (enters_of Tryz.func59 (by kernel_rfl) rfl)
      (fun b nn Bm D0 R w hown hBm hc => AnyZI.keys_gives (ρ := Tryz.iterA_ren) { Tryz.iterA with } Fence.wide _ trivial rfl (by omega) Bm b nn D0 w hBm hc hown)
      (fun Bm w hBm hc => AnyZI.keys_gives_nil (ρ := Tryz.iterA_ren) { Tryz.iterA with } Fence.wide _ trivial rfl Bm w hBm hc)
  · exact sorted_at 102 hu h1 e58 e31 (enters_of Tryz.func102 (by kernel_rfl) rfl)
      (fun b nn Bm D0 R w hown hBm hc => AnyZI.keys_gives (ρ := Tryz.iterB_ren) { Tryz.iterB with } Fence.wide _ trivial rfl (by omega) Bm b nn D0 w hBm hc hown)
      (fun Bm w hBm hc => AnyZI.keys_gives_nil (ρ := Tryz.iterB_ren) { Tryz.iterB with } Fence.wide _ trivial rfl Bm w hBm hc)
  · exact sorted_at 245 hu h1 e58 e31 (enters_of Tryz.func245 (by kernel_rfl) rfl)
      (fun b nn Bm D0 R w hown hBm hc => AnyZI.keys_gives (ρ := Tryz.iterC_ren) { Tryz.iterC with } Fence.wide _ trivial rfl (by omega) Bm b nn D0 w hBm hc hown)
      (fun Bm w hBm hc => AnyZI.keys_gives_nil (ρ := Tryz.iterC_ren) { Tryz.iterC with } Fence.wide _ trivial rfl Bm w hBm hc)
  · exact sorted_at 561 hu h1 e58 e31 (enters_of Tryz.func561 (by kernel_rfl) rfl)
      (fun b nn Bm D0 R w hown hBm hc => AnyZI.keys_gives (ρ := Tryz.iterD_ren) { Tryz.iterD with } Fence.wide _ trivial rfl (by omega) Bm b nn D0 w hBm hc hown)
      (fun Bm w hBm hc => AnyZI.keys_gives_nil (ρ := Tryz.iterD_ren) { Tryz.iterD with } Fence.wide _ trivial rfl Bm w hBm hc)
end Go.Ev
end

section
/- The program's functions without a body, as the library's table has them. -/
open Go Go.Ev Go.Proofs
namespace Go.Ev
set_option maxRecDepth 100000
variable {C : Ctx}
theorem x154 : ExtSound Tryz.prog C (.aload .i64) 154 := ext_load ⟨Tryz.f154, by kernel_rfl, by kernel_rfl, by kernel_rfl, by kernel_rfl, by kernel_rfl⟩
theorem x188 : ExtSound Tryz.prog C (.same) 188 := ext_same ⟨Tryz.f188, by kernel_rfl, by kernel_rfl, by kernel_rfl, by kernel_rfl, by kernel_rfl⟩
theorem x325 : ExtSound Tryz.prog C (.aload .u32) 325 := ext_load ⟨Tryz.f325, by kernel_rfl, by kernel_rfl, by kernel_rfl, by kernel_rfl, by kernel_rfl⟩
theorem x384 : ExtSound Tryz.prog C (.astore) 384 := ext_store ⟨Tryz.f384, by kernel_rfl, by kernel_rfl, by kernel_rfl, by kernel_rfl, by kernel_rfl⟩
theorem x397 : ExtSound Tryz.prog C (.count) 397 := ext_count ⟨Tryz.f397, by kernel_rfl, by kernel_rfl, by kernel_rfl, by kernel_rfl, by kernel_rfl⟩
theorem x415 : ExtSound Tryz.prog C (.aadd .i64) 415 := ext_add ⟨Tryz.f415, by kernel_rfl, by kernel_rfl, by kernel_rfl, by kernel_rfl, by kernel_rfl⟩
theorem x425 : ExtSound Tryz.prog C (.noop) 425 := ext_noop (m := .disable) ⟨Tryz.f425, by kernel_rfl, by kernel_rfl, by kernel_rfl, by kernel_rfl, by kernel_rfl⟩
theorem x426 : ExtSound Tryz.prog C (.acas .i32) 426 := ext_cas ⟨Tryz.f426, by kernel_rfl, by kernel_rfl, by kernel_rfl, by kernel_rfl, by kernel_rfl⟩
theorem x427 : ExtSound Tryz.prog C (.noop) 427 := ext_noop (m := .enable) ⟨Tryz.f427, by kernel_rfl, by kernel_rfl, by kernel_rfl, by kernel_rfl, by kernel_rfl⟩
theorem x428 : ExtSound Tryz.prog C (.race) 428 := ext_race (m := .acquire) ⟨Tryz.f428, by kernel_rfl, by kernel_rfl, by kernel_rfl, by kernel_rfl, by kernel_rfl⟩
theorem x430 : ExtSound Tryz.prog C (.race) 430 := ext_race (m := .releaseMerge) ⟨Tryz.f430, by kernel_rfl, by kernel_rfl, by kernel_rfl, by kernel_rfl, by kernel_rfl⟩
theorem x431 : ExtSound Tryz.prog C (.aadd .i32) 431 := ext_add ⟨Tryz.f431, by kernel_rfl, by kernel_rfl, by kernel_rfl, by kernel_rfl, by kernel_rfl⟩
theorem x433 : ExtSound Tryz.prog C (.idxByte) 433 := ext_idxByte ⟨Tryz.f433, by kernel_rfl, by kernel_rfl, by kernel_rfl, by kernel_rfl, by kernel_rfl⟩
theorem x399 : ExtSound Tryz.prog C (.noZero 5) 399 := ext_noZero (ps := Tryz.f399.params) (t := Tryz.f399.resultTypes[0]!) (by kernel_rfl) (by kernel_rfl) ⟨Tryz.f399, by kernel_rfl, by kernel_rfl, by kernel_rfl, by kernel_rfl, by kernel_rfl⟩
end Go.Ev
end

section
/- The seat's tables are good; works() holds. -/
open Go Go.Ev Go.Proofs
namespace Go.Ev
set_option linter.unusedVariables false
set_option maxRecDepth 100000

theorem exts_ok {C : Ctx} (i : Nat) (e : Ext) (h : exts i = some e) : ExtSound Tryz.prog C e i := by
  unfold exts at h
  split at h <;> cases h
  · exact x77
  · exact x154
  · exact x188
  · exact x325
  · exact x384
  · exact x397
  · exact x399
  · exact x415
  · exact x425
  · exact x426
  · exact x427
  · exact x428
  · exact x430
  · exact x431
  · exact x433
  · exact x31

noncomputable abbrev C1 : Ctx := ctx0 Tryz.prog exts glk drT
noncomputable abbrev C2 : Ctx := ctx0 Tryz.prog exts2 glk drT
theorem prog1 : ProgOk Tryz.prog C1 := prog_ok mixed_ok names_ok draws_true exts_ok

/-- The world holds the tables that the code reads. -/
def GlobOk (w : World) : Prop := ∀ g cs, glk g = some cs → ∃ xs t fr, w.heap[g]? = some (.cells xs t fr) ∧ ∀ (j : Nat) v, cs[j]? = some v → ∃ x, xs[j]? = some x ∧ RelV (fun _ => none) v x

theorem pow10s_ik : ∀ (n x j : Nat) v, (pow10s n x)[j]? = some v → ∃ k m, v = .ik k m
  | 0, x, j, v, h => by simp [pow10s] at h
  | n + 1, x, 0, v, h => by simp [pow10s] at h; exact ⟨_, _, h.symm⟩
  | n + 1, x, j + 1, v, h => by
    simp only [pow10s, List.getElem?_cons_succ] at h
    exact pow10s_ik n _ j v h
theorem glob_of {C : Ctx} {ρ : Ren} {h : Heap} {w : World} (hg : C.gl = glk) (hH : HeapRel Tryz.prog C ρ h w) : GlobOk w := by
  intro g cs hgl
  obtain ⟨_, xs, t, fr, h1, h2⟩ := hH.glob g cs (by rw [hg]; exact hgl)
  refine ⟨xs, t, fr, h1, fun j v hv => ?_⟩
  obtain ⟨x, h3, h4⟩ := h2 j v hv
  have hik : ∃ k m, v = .ik k m := by
    unfold glk at hgl
    split at hgl
    · cases hgl; exact pow10s_ik _ _ j v hv
    · cases hgl
  obtain ⟨k, m, rfl⟩ := hik
  exact ⟨x, h3, by cases h4; exact .ik _ _⟩

theorem heap0_rel {C : Ctx} {w : World} (hg : C.gl = glk) (h : GlobOk w) : HeapRel Tryz.prog C (fun _ => none) heap0 w :=
  ⟨fun i B hi => (by cases hi), fun i B hi => (by cases hi), fun i j B D hi => (by cases hi), fun g cs hgl => ⟨fun i B hi => (by cases hi), h g cs (by rw [← hg]; exact hgl)⟩⟩

/-- Behind a call nothing of what was there has turned. -/
structure Still (w w' : World) : Prop where
  size : w.heap.size ≤ w'.heap.size
  block : ∀ b, b < w.heap.size → w'.heap[b]? = w.heap[b]?
  aside : Aside w w'
theorem still_of {h' : Heap} {ρ' : Ren} {w w' : World} (hL : Le (fun _ => none) heap0 w ρ' h' w') : Still w w' :=
  ⟨hL.size, fun b hb => (hL.frame b hb (by rintro ⟨i, B, hi, _⟩; cases hi)).1, hL.aside⟩
theorem Still.rel {C : Ctx} {ρ : Ren} {h : Heap} {w w' : World} (s : Still w w') (r : HeapRel Tryz.prog C ρ h w) : HeapRel Tryz.prog C ρ h w' ∧ Le ρ h w ρ h w' := by
  refine ⟨⟨fun i D hi => ⟨(r.dom i D hi).1, Nat.lt_of_lt_of_le (r.dom i D hi).2 s.size⟩, fun i D hi => by rw [s.block _ (r.dom i D hi).2]; exact r.obj i D hi, r.inj, fun g cs hgl => ?_⟩,
    fun _ _ h => h, s.size, fun b hb hm => ⟨s.block b hb, hm⟩, Nat.le_refl _, fun _ _ h => ⟨rfl, h⟩, s.aside⟩
  obtain ⟨h1, xs, t, fr, h2, h3⟩ := r.glob g cs hgl
  have hgs : g < w.heap.size := by
    rcases Nat.lt_or_ge g w.heap.size with h | h
    · exact h
    · rw [Array.getElem?_eq_none h] at h2; cases h2
  exact ⟨h1, xs, t, fr, by rw [s.block g hgs]; exact h2, h3⟩

theorem isTrue_rel {ρ : Ren} {V : V} {v : Value} (h : isTrue V = true) (hv : RelV ρ V v) : v = .bool true := by
  unfold isTrue at h
  split at h
  · subst h; cases hv; rfl
  · cases h

theorem run_call {p : Program} {ext : Nat → Option Ext} {gl : Nat → Option (List V)} {drs : Drs} {n f : Nat} {args : List V} {k : V → Heap → Bool} (h : runF p ext gl drs n f args k = true) : ∃ n, (rtN (ctx0 p ext gl drs) n).call f args heap0 k = true :=
  ⟨n, withCtx_true (g := fun C => (rtN C n).call f args heap0 k) h⟩
theorem works_gen (n : Nat) (hx : (rtN C1 n).call 9 [] heap0 (fun v _ => isTrue v) = true) (w : World) (hg : GlobOk w) : Calls Tryz.prog 9 #[] w fun e w' => e = .returned (.bool true) ∧ Still w w' := by
  refine (callsIn_wide (n := 0)).1 (((rt_ok prog1 n).call 9 [] heap0 _ (fun _ => none) #[] w hx .nil (heap0_rel rfl hg)).mono ?_)
  rintro e w' ⟨v, rfl, V, h', ρ', hk, hv, hH', hL⟩
  exact ⟨by rw [isTrue_rel hk hv], still_of hL⟩
theorem works_run : ∃ n, (rtN (ctx0 Tryz.prog exts glk drT) n).call 9 [] heap0 (fun v _ => isTrue v) = true := run_call works_true
theorem works_calls (w : World) (hg : GlobOk w) : Calls Tryz.prog 9 #[] w fun e w' => e = .returned (.bool true) ∧ Still w w' := by
  obtain ⟨n, hn⟩ := works_run
  exact works_gen n hn w hg

theorem x9 : ExtSound Tryz.prog C2 .holds 9 := by
  intro args h k ρ xs w hx hr hH
  obtain ⟨rfl, hk⟩ := arg0_rel hr hx
  refine .inr ⟨Go.Proofs.enters_of Tryz.func9 (by kernel_rfl) rfl _ _, (callsIn_wide (n := 0)).2 ((works_calls w (glob_of rfl hH)).mono ?_)⟩
  rintro e w' ⟨rfl, hs⟩
  obtain ⟨hH', hL⟩ := hs.rel hH
  exact ⟨_, rfl, .bool true, h, ρ, hk, .bool true, hH', hL⟩

theorem exts2_ok (i : Nat) (e : Ext) (h : exts2 i = some e) : ExtSound Tryz.prog C2 e i := by
  unfold exts2 at h
  split at h
  · cases h; exact x9
  · exact exts_ok _ _ h
theorem prog2 : ProgOk Tryz.prog C2 := prog_ok mixed_ok names_ok draws_true exts2_ok
end Go.Ev
end

section
/- TopWitness: behind its first operations the evaluator's run is the machine's. -/
open Go Go.Ev Go.Proofs
namespace Go.Ev
open Go.RowKit
set_option linter.unusedVariables false
set_option maxRecDepth 100000

/-- The body behind the first two regions. -/
noncomputable def rest3 : Code := match Tryz.f3.body with
  | some (.seq _ (.seq _ r)) => r
  | _ => .skip

/-- One kind, and behind it another thing t: in one line of runs (the kernel keeps little of what is done). -/
noncomputable def endK (x : X) (ds : List D) (e : Env) (t : Bool) : Bool := X.onRet x (onList ds (ifb (isTrue ((eg 6).get e)) t false) (fun _ _ => false))
noncomputable def kindK (b q c n : Nat) (C : Ctx) (t : Bool) : Bool :=
  (ep 7).put (.num b) env0 (fun e => (ep 8).put (.num q) e (fun e => (ep 9).put (.num c) e (fun e => (rtN C n).code 3 rest3 0 [] e heap0 (fun _ _ _ => false) (fun x ds e _ => endK x ds e t))))
/-- Several kinds in one run. -/
noncomputable def kindsK (l : List (Nat × Nat × Nat)) (n : Nat) (C : Ctx) : Bool := foldL true (fun x _ r => onPair x (fun b y => onPair y (fun q c => frc b (fun b => frc q (fun q => frc c (fun c => kindK b q c n C r)))))) l
noncomputable def runKinds (l : List (Nat × Nat × Nat)) (n : Nat) : Bool := withCtx Tryz.prog exts2 glk drT (kindsK l n)

theorem kind_ok {b q c n : Nat} {t : Bool} (hx : kindK b q c n C2 t = true) (hb : b ≤ 7) (hq : q ≤ 4) (hc : c ≤ 5) {a : Act} {w : World} (hg : GlobOk w) (hs : a.tmps.size = Tryz.f3.ntmps) (h7 : a.tmps.getD 7 undef = .int .i64 (b : Int)) (h8 : a.tmps.getD 8 undef = .int .i64 (q : Int))
    (h9 : a.tmps.getD 9 undef = .int .i64 (c : Int)) (hd : a.defers = []) {Q : Exit → Act → World → Prop} (hQ : ∀ a' w', a'.defers = [] → a'.tmps.getD 6 undef = .bool true → Still w w' → t = true → Q .ret a' w') :
    rest3.wpIn (fen none) 0 Tryz.prog Q a w := by
  unfold kindK at hx
  obtain ⟨e1, hx, g1⟩ := ep_put hx
  obtain ⟨e2, hx, g2⟩ := ep_put hx
  obtain ⟨e3, hx, g3⟩ := ep_put hx
  have hin : CodeIn Tryz.prog 3 rest3 := ⟨Tryz.f3, _, Tryz.func3, rfl, .seqR (.seqR .self)⟩
  have hnt : ntOf C2 3 = Tryz.f3.ntmps := prog2.nt 3 Tryz.f3 Tryz.func3
  refine (rt_ok prog2 n).code 3 rest3 hin 0 none [] e3 heap0 _ _ (fun _ => none) a w Q (.inl ⟨rfl, rfl⟩) hx ⟨fun u => ?_, by rw [hs, hnt], by rw [hd]; exact .nil⟩ (heap0_rel rfl hg) ?_ ?_
  · rw [g3, g2, g1]
    by_cases t9 : u = 9
    · subst t9; rw [if_pos rfl, h9]; exact .num c (by unfold maxI; omega)
    rw [if_neg t9]
    by_cases t8 : u = 8
    · subst t8; rw [if_pos rfl, h8]; exact .num q (by unfold maxI; omega)
    rw [if_neg t8]
    by_cases t7 : u = 7
    · subst t7; rw [if_pos rfl, h7]; exact .num b (by unfold maxI; omega)
    rw [if_neg t7, eg_env0]
    exact .undef _
  · intro ds e h ρ a' w' hx
    exact absurd hx Bool.false_ne_true
  · intro x ds e h ρ a' w' hx hA hH hL
    obtain ⟨rfl, hx⟩ := X.onRet_true.1 hx
    cases ds with
    | cons d t => exact absurd hx Bool.false_ne_true
    | nil =>
      obtain ⟨hx, ht⟩ := ifb_and.1 hx
      have hd' := hA.defers
      cases hds : a'.defers with
      | cons d ds => rw [hds] at hd'; cases hd'
      | nil => exact hQ a' w' hds (isTrue_rel hx (hA.env 6)) (still_of hL) ht

theorem seq_name {F : Fence} {n : Nat} {P : Program} {Q : Exit → Act → World → Prop} {x y R : Code} {a : Act} {w : World} (h : ∀ R', R' = R → (Code.seq x (Code.seq y R')).wpIn F n P Q a w) : (Code.seq x (Code.seq y R)).wpIn F n P Q a w := h R rfl

theorem top_call1 {n b q c : Nat} {t : Bool} (hk : kindK b q c n C2 t = true) (x y z : Int) (w : World) (hb : (b : Int) = 1 + x % 7) (hq : (q : Int) = 1 + y % 4) (hc : (c : Int) = 1 + z % 5) (hx : 0 ≤ x ∧ x ≤ 255) (hy : 0 ≤ y ∧ y ≤ 255) (hz : 0 ≤ z ∧ z ≤ 255) (hg : GlobOk w) :
    Calls Tryz.prog 3 #[.int .u8 x, .int .u8 y, .int .u8 z] w fun e w' => (e = .returned (.bool true) ∧ Still w w') ∧ t = true := by
  refine (callsIn_wide (n := 0)).1 ?_
  refine callsIn_of_wp Tryz.func3 rfl trivial ?_ rfl
  simp only [Tryz.ntmps3, List.size_toArray, List.length_cons, List.length_nil, Nat.reduceAdd, Nat.reduceSub, Array.replicate_succ, Array.replicate_zero, List.push_toArray, List.append_toArray, List.nil_append, List.cons_append]
  refine seq_name ?_
  intro R hR
  have hR2 : R = rest3 := hR
  clear hR
  gi_wp2_with (fail)
  subst hR2
  refine kind_ok hk (by omega) (by omega) (by omega) hg rfl ?_ ?_ ?_ rfl ?_
  · rw [hb]; rfl
  · rw [hq]; rfl
  · rw [hc]; rfl
  · intro a' w' hd h6 hs ht
    exact ⟨hd, .bool true, by simp [results, Tryz.results3, go_sem]; rw [← Array.getD_eq_getD_getElem?]; exact h6, ⟨rfl, hs⟩, ht⟩

/-- The numbers of a kind. -/
def Kind (x : Nat × Nat × Nat) : Prop := 1 ≤ x.1 ∧ x.1 ≤ 7 ∧ 1 ≤ x.2.1 ∧ x.2.1 ≤ 4 ∧ 1 ≤ x.2.2 ∧ x.2.2 ≤ 5
instance (x : Nat × Nat × Nat) : Decidable (Kind x) := by unfold Kind; infer_instance
theorem calls_true {P : Program} {f : FuncId} {args : Array Value} {w : World} {T : Prop} (h : Calls P f args w fun _ _ => T) : T := by
  obtain ⟨e, w', fr, r, h1⟩ := h []
  first | exact r | exact h1 | exact h1.1 | exact h1.2
theorem kindsK_mem {n : Nat} {w : World} (hg : GlobOk w) : ∀ {l : List (Nat × Nat × Nat)}, kindsK l n C2 = true → (∀ x ∈ l, Kind x) → ∀ x ∈ l, ∃ t, kindK x.1 x.2.1 x.2.2 n C2 t = true
  | [], _, _, x, hx => by cases hx
  | y :: l, h, hl, x, hx => by
    have h : kindK y.1 y.2.1 y.2.2 n C2 (kindsK l n C2) = true := h
    cases hx with
    | head => exact ⟨_, h⟩
    | tail _ hx =>
      obtain ⟨k1, k2, k3, k4, k5, k6⟩ := hl y List.mem_cons_self
      have ht : kindsK l n C2 = true := calls_true ((top_call1 h ((y.1 : Int) - 1) ((y.2.1 : Int) - 1) ((y.2.2 : Int) - 1) w (by omega) (by omega) (by omega) (by omega) (by omega) (by omega) hg).mono fun _ _ h => h.2)
      exact kindsK_mem hg ht (fun z hz => hl z (List.mem_cons_of_mem _ hz)) x hx
/-- What the kernel has seen of some kinds. -/
def Seen (l : List (Nat × Nat × Nat)) (n : Nat) : Prop := ∀ w, GlobOk w → ∀ x ∈ l, ∃ t, kindK x.1 x.2.1 x.2.2 n C2 t = true
theorem seen_of {l : List (Nat × Nat × Nat)} {n : Nat} (h : runKinds l n = true) (hl : ∀ x ∈ l, Kind x) : Seen l n := fun w hg => kindsK_mem hg (withCtx_true (g := kindsK l n) h) hl
theorem Seen.app {l m : List (Nat × Nat × Nat)} {n : Nat} (h : Seen l n) (g : Seen m n) : Seen (l ++ m) n := fun w hg x hx => (List.mem_append.1 hx).elim (h w hg x) (g w hg x)
theorem top_calls (n : Nat) (hk : ∀ w, GlobOk w → ∀ b q c : Nat, 1 ≤ b → b ≤ 7 → 1 ≤ q → q ≤ 4 → 1 ≤ c → c ≤ 5 → ∃ t, kindK b q c n C2 t = true) (x y z : Int) (w : World) (hx : 0 ≤ x ∧ x ≤ 255) (hy : 0 ≤ y ∧ y ≤ 255) (hz : 0 ≤ z ∧ z ≤ 255) (hg : GlobOk w) :
    Calls Tryz.prog 3 #[.int .u8 x, .int .u8 y, .int .u8 z] w fun e w' => e = .returned (.bool true) ∧ Still w w' := by
  obtain ⟨t, ht⟩ := hk w hg (1 + x % 7).toNat (1 + y % 4).toNat (1 + z % 5).toNat (by omega) (by omega) (by omega) (by omega) (by omega) (by omega)
  exact (top_call1 ht x y z w (Int.toNat_of_nonneg (by omega)) (Int.toNat_of_nonneg (by omega)) (Int.toNat_of_nonneg (by omega)) hx hy hz hg).mono fun _ _ h => h.1
end Go.Ev
end

section
/- From the run to the row's step: what the row's list gives, and the frame. -/
open Go Go.Ev Go.Proofs
namespace Go.Ev
open Go.ChangeShapes Go.WideShapes Go.ChangeAt Go.RowKit Go.Deep
set_option linter.unusedVariables false
set_option maxRecDepth 100000

/-- The powers of ten that an uint64 holds. -/
def pows : List Int := [1, 10, 100, 1000, 10000, 100000, 1000000, 10000000, 100000000, 1000000000, 10000000000, 100000000000, 1000000000000, 10000000000000, 100000000000000, 1000000000000000, 10000000000000000, 100000000000000000, 1000000000000000000, 10000000000000000000]
theorem pows_eq : pow10s 20 1 = pows.map (V.ik .u64) := by rfl

theorem glob_of_tab {W : World} (hg4 : Tryz.prog.globalNamed "internal/strconv.uint64pow10" = some 4) (h : Lib.TabIs Tryz.prog W "internal/strconv.uint64pow10" .u64 pows) : GlobOk W := by
  intro g cs hgl
  unfold glk at hgl
  split at hgl
  · cases hgl
    have hc : ∀ i, i < 20 → W.cell? ⟨4, i, none⟩ = some (.int .u64 (pows.getD i 0)) := fun i hi => h.cell hg4 i (by show i < 20; exact hi)
    have h0 := hc 0 (by omega)
    cases hb : W.heap[4]? with
    | none => simp [World.cell?, hb] at h0
    | some ob =>
      cases ob with
      | cells xs t fr =>
        refine ⟨xs, t, fr, rfl, fun j v hv => ?_⟩
        rw [pows_eq, List.getElem?_map, Option.map_eq_some_iff] at hv
        obtain ⟨z, hz, rfl⟩ := hv
        have hj : j < 20 := by
          rcases Nat.lt_or_ge j 20 with h | h
          · exact h
          · rw [List.getElem?_eq_none (by show 20 ≤ j; exact h)] at hz; cases hz
        have h1 := hc j hj
        rw [cell_of hb] at h1
        refine ⟨_, h1, ?_⟩
        rw [List.getD_eq_getElem?_getD, hz]
        exact .ik _ _
      | _ => simp [World.cell?, hb] at h0
  · cases hgl

section
variable {H : Type} {enc : TypeId × Value → H} {P : Program}

theorem Still.same {W w' : World} (h : Still W w') {p : MemPlace} (hp : p.block < W.heap.size) : W.sameAt w' p := by
  cases p with
  | cell b o => exact World.cell?_of_block (w := W) (h.block b hp)
  | map b => exact h.block b hp
theorem Still.frame {W w' : World} (h : Still W w') (may : MemPlace → Prop) : W.keptBut w' may := by
  refine ⟨h.aside.1, h.aside.2, fun i hi => ?_⟩
  rw [h.block i hi]
  split <;> simp_all
theorem trodAll_still (hl : laidOutB P = true) {W W' : World} (hb : Still W W') :
    ∀ (ts : List TypeId), (∀ t ∈ ts, P.readableRec t = true ∧ t < P.types.size) → ∀ (vs : List Value) (ds : List (DataW H)) (ps : List MemPlace),
      DataW.TrodAll enc P W 0 (fun _ => true) true ts vs ds ps →
      DataW.TrodAll enc P W' 0 (fun b => decide (b < W.heap.size)) true ts vs ds ps
  | [], _, vs, ds, ps, h => by
    obtain ⟨rfl, rfl, rfl⟩ := trodAll_nil h
    exact trodAll_mk0
  | t :: ts, hr, vs, ds, ps, h => by
    obtain ⟨v, vs', d, ds', p, q, rfl, rfl, rfl, h0, h1⟩ := trodAll_cons h
    have hlt : ∀ x ∈ p, x.block < W.heap.size := by obtain ⟨m, hm⟩ := h0; exact DataW.trod_lt m _ _ _ hm
    exact trodAll_cons_mk (WideElems.Trod_stays hl (hr t (by simp)).1 (hr t (by simp)).2 h0 (fun x hx => hb.same (hlt x hx)) (fun x hx => by simpa using hlt x hx))
      (trodAll_still hl hb ts (fun t' ht' => hr t' (by simp [ht'])) vs' ds' q h1)
theorem trodAll_count {W : World} {base : Nat} {sp : Nat → Bool} {hd : Bool} : ∀ (ts : List TypeId) (vs : List Value) (ds : List (DataW H)) (ps : List MemPlace),
    DataW.TrodAll enc P W base sp hd ts vs ds ps → ds.length = ts.length
  | [], vs, ds, ps, h => by
    obtain ⟨_, rfl, _⟩ := trodAll_nil h
    rfl
  | t :: ts, vs, ds, ps, h => by
    obtain ⟨v, vs', d, ds', p, q, rfl, rfl, rfl, h0, h1⟩ := trodAll_cons h
    simp [trodAll_count ts vs' ds' q h1]

/-- THE ROW's STEP OF A LAW WHOSE ROW LISTS VARIABLES. -/
theorem liftedStill {C : Checked} {os : Os} {f : FuncId} {fn : Func} {s : ChangeSpec} {F : Stop.Interp} {laid : List (String × DataW Unit)} (bt : TypeId) (n : Nat)
    (own : ownKnob C.prog.godebug = none) (started : os.Started) (noInit : C.prog.inits.idxOf? f = none) (hfn : C.prog.funcs[f]? = some fn)
    (witness : ∃ (w : World) (tape : Tape) (i : Input), w.os = os ∧ (w.forCall tape i).Shaped C.prog ∧ i.vars = [] ∧ Input.okWide C.prog (w.forCall tape i) .any w.heap.size f i ∧
      (OpenSpec.ofChange s).preRow enc C.prog fn [] false laid (w.forCall tape i).memory i.args ∧ ({} : Assume).holds C.prog (lone (Frame.enter C.prog f i.args .normal) [] (w.forCall tape i)))
    (hs : s.vars = []) (hn : fn.params.size = n)
    (hfnc : ∀ ds : List (DataW H), ds.length = n → (s.fn H ds).results = [.lit (.bool true)] ∧ (s.fn H ds).args = ds ∧ (s.fn H ds).vars = [])
    (hres : fn.resultTypes = #[bt]) (hb : C.prog.underlying bt = some .bool)
    (hl : laidOutB C.prog = true) (hp : fn.params.toList.all (fun t => C.prog.readableRec t && decide (t < C.prog.types.size)) = true)
    (walk : ∀ (W : World) (args : Array Value) (ds : List (DataW H)) (ps : List MemPlace) (base : Nat),
      (∀ (j : Nat) t v, fn.params[j]? = some t → args[j]? = some v → Value.okWide C.prog W .any base t v) →
      DataW.TrodAll enc C.prog W 0 (fun _ => true) true fn.params.toList args.toList ds ps → laidMetH C.prog laid W →
      Calls C.prog f args W fun e W' => e = .returned (.bool true) ∧ Still W W') :
    ReturnsInHanded {} C os f .any ((OpenSpec.ofChange s).preRow enc C.prog fn [] false laid) (((OpenSpec.ofChange s).at F).post enc C.prog fn false true false false) := by
  refine returnsInHanded_of_row (s := OpenSpec.ofChange s) own started noInit hfn witness ?_
  intro W base args ds gs before hval hW _ _ _ hL _ _
  show Calls C.prog f args W fun e W' => ∃ v, e = .returned v ∧ s.post enc C.prog fn false true false false W args v W'
  have hW0 : DataW.Whole enc C.prog fn.params.toList s.vars false W args.toList ds gs before := hW
  have hW' := hW0
  obtain ⟨p, q, hA, hV, rfl, hfz, hnd⟩ := hW0
  rw [hs] at hV
  obtain ⟨rfl, rfl⟩ := trodVars_none hV
  have hlen : ds.length = n := by rw [trodAll_count _ _ _ _ hA, ← hn]; simp
  have hp' : ∀ t ∈ fn.params.toList, C.prog.readableRec t = true ∧ t < C.prog.types.size := by
    intro t ht
    have := List.all_eq_true.1 hp t ht
    simpa using this
  obtain ⟨e1, e2, e3⟩ := hfnc (ds ++ []) (by simpa using hlen)
  refine (walk W args ds p base hval hA hL).mono fun e W' ⟨he, bel⟩ => ?_
  subst he
  refine ⟨_, rfl, ds, [], p ++ [], [], p, [], hW', ?_, ?_, ?_, bel.frame _, fun h => by cases h⟩
  · rw [e1, hres]
    exact trodAll_mk1 (shut_bool hb _)
  · rw [e2, List.append_nil]
    exact trodAll_still hl bel _ hp' _ _ _ hA
  · rw [hs, e3]
    rfl
end
end Go.Ev
end

section
/- TopWitness's walk as the row wants it, given all kinds. -/
open Go Go.Ev Go.Proofs
namespace Go.Ev
open Go.ChangeShapes Go.WideShapes Go.ChangeAt Go.RowKit Go.Deep
set_option linter.unusedVariables false
set_option maxRecDepth 100000
theorem walked_top {n : Nat} (hk : ∀ w, GlobOk w → ∀ b q c : Nat, 1 ≤ b → b ≤ 7 → 1 ≤ q → q ≤ 4 → 1 ≤ c → c ≤ 5 → ∃ t, kindK b q c n C2 t = true) (H : Type) (enc : TypeId × Value → H) (W : World) (args : Array Value) (ds : List (DataW H)) (ps : List MemPlace) (base : Nat)
    (hval0 : ∀ (j : Nat) t v, Tryz.f3.params[j]? = some t → args[j]? = some v → Value.okWide Tryz.prog W .any base t v)
    (hA : DataW.TrodAll enc Tryz.prog W 0 (fun _ => true) true Tryz.f3.params.toList args.toList ds ps) (hg : GlobOk W) :
    Calls Tryz.prog 3 args W fun e W' => e = .returned (.bool true) ∧ Still W W' := by
  have hval : ∀ (j : Nat) t v, Tryz.f3.params[j]? = some t → args[j]? = some v → Value.okWide Tryz.prog W .any base t v := hval0
  clear hval0
  rw [Tryz.params3] at hA hval
  obtain ⟨v0, vs0, d0, ds0, p0, q0, hargs, rfl, rfl, h0, r0⟩ := trodAll_cons hA
  obtain ⟨v1, vs1, d1, ds1, p1, q1, rfl, rfl, rfl, h1, r1⟩ := trodAll_cons r0
  obtain ⟨v2, vs2, d2, ds2, p2, q2, rfl, rfl, rfl, h2, r2⟩ := trodAll_cons r1
  obtain ⟨rfl, rfl, rfl⟩ := trodAll_nil r2
  obtain rfl : args = #[v0, v1, v2] := by cases args; simp_all
  obtain ⟨a0, rfl, rfl, rfl, w0⟩ := open_int Tryz.underlying5 (hval 0 5 v0 rfl rfl) h0
  obtain ⟨a1, rfl, rfl, rfl, w1⟩ := open_int Tryz.underlying5 (hval 1 5 v1 rfl rfl) h1
  obtain ⟨a2, rfl, rfl, rfl, w2⟩ := open_int Tryz.underlying5 (hval 2 5 v2 rfl rfl) h2
  exact top_calls n hk a0 a1 a2 W (bounds_u8 w0) (bounds_u8 w1) (bounds_u8 w2) hg
/-- The world's table out of the row's list: behind so many entries. -/
theorem glob4 : Tryz.prog.globalNamed "internal/strconv.uint64pow10" = some 4 := by kernel_rfl
/-- What the row's list gives, where the table stands fourth. -/
theorem glob_of_laid {W : World} {a b c : String × DataW Unit} {rest : List (String × DataW Unit)} (h : laidMet Tryz.prog (a :: b :: c :: ("internal/strconv.uint64pow10", Lib.tabData .u64 pows) :: rest) W) : GlobOk W :=
  glob_of_tab glob4 (Lib.tabIs_of_head glob4 (show (Tryz.prog.globals[4]?).map (·.type) = some 592 by kernel_rfl) Tryz.underlying592 (show Tryz.prog.underlying 366 = some (.int .u64) from Tryz.underlying366) (by kernel_rfl) (by kernel_rfl) h.tail.tail.tail)
end Go.Ev
end
