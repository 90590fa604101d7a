/- Part 2 of the proof of RegionStale: lemmas, each with its conditions ahead of it. -/
import Derived.Test.YtdhcmnbajkpjiaaPartRegionStale1
import Derived.Deep.RegionHeld3
import Derived.Outline
import Derived.Maps.AppendAt
import Derived.Deep.AppendLies
import Derived.RegionTactic
import Derived.OwnWalk
import Derived.Deep.OwnRows
import Derived.Laws.CopyOwn
import Derived.Maps.OwnSet
import Derived.Maps.Views
import Derived.WideKeyEntry
import Derived.Deep.Cut
import Derived.WalkKit
/-
  Chain: the contract of New.
-/
namespace Go.Proofs.Ytdhcmnbajkpjiaa
open Go.RowKit
set_option linter.unusedVariables false
attribute [local go_sem] drewN_alloc drewN_setCell

theorem chain_New_no (l n : Int) (w : World) (h : l < 0 ∨ 1048576 < l ∨ n < 0 ∨ 1048576 < n) :
    Calls Try.prog 18 #[.int .i64 l, .int .i64 n] w fun e w' => e = .returned (.pointer none) ∧ w = w' := by
  by_cases h1 : l < 0
  · clear h
    go_enter Try.func18, Try.ntmps18
    go_wp2_with fail
    go_ret
    exact ⟨rfl, rfl⟩
  · by_cases h2 : 1048576 < l
    · clear h
      go_enter Try.func18, Try.ntmps18
      go_wp2_with fail
      go_ret
      exact ⟨rfl, rfl⟩
    · by_cases h3 : n < 0
      · clear h
        go_enter Try.func18, Try.ntmps18
        go_wp2_with fail
        go_ret
        exact ⟨rfl, rfl⟩
      · have h4 : 1048576 < n := by omega
        clear h
        go_enter Try.func18, Try.ntmps18
        go_wp2_with fail
        go_ret
        exact ⟨rfl, rfl⟩

/-- A chain of new memory, without nodes. -/
def MadeChain (w : World) (n l : Nat) (e : Ending) (w' : World) : Prop := ∃ C Nb Lb, e = .returned (.pointer (some ⟨C, 0, none⟩)) ∧ ChainRows w' C Nb Lb n l PC.none0 ∧ Below w.heap.size w w' ∧ w.heap.size ≤ C ∧ w.heap.size ≤ Nb ∧ w.heap.size ≤ Lb

/-- What a list's three cells hold at the beginning. -/
def lfill (j : Nat) : Value := if j % 3 = 2 then .int .i64 0 else .int .i64 (-1)
theorem lfill0 (k : Nat) : lfill (k * 3) = .int .i64 (-1) := by unfold lfill; rw [if_neg (by omega)]
theorem lfill1 (k : Nat) : lfill (k * 3 + 1) = .int .i64 (-1) := by unfold lfill; rw [if_neg (by omega)]
theorem lfill2 (k : Nat) : lfill (k * 3 + 2) = .int .i64 0 := by unfold lfill; rw [if_pos (by omega)]

theorem chain_none (w : World) : Calls Try.prog 100 #[] w fun e w' => e = .returned (.agg #[.int .i64 (-1), .int .i64 (-1)]) ∧ w.alloc (.cells #[.int .i64 (-1), .int .i64 (-1)] 122) = w' := by
  go_enter Try.func100, Try.ntmps100
  go_wp2_with fail
  exact bodyPost_ret (v := .agg #[.int .i64 (-1), .int .i64 (-1)]) (by simp [results, Try.results100, go_sem]) rfl ⟨rfl, rfl⟩

/-- What New has made, the nodes filled up to a, the lists up to b. -/
structure NewAt (w : World) (C Nb Lb n l a b : Nat) : Prop where
  rc : RowAt w C 45 [.slice (some ⟨Nb, 0, none⟩) n n, .slice (some ⟨Lb, 0, none⟩) l l]
  rn : RowAt w Nb 125 (filled (n * 3) a (fun _ => .int .i64 (-1)) (.int .i64 0))
  rl : RowAt w Lb 127 (filled (l * 3) b lfill (.int .i64 0))
  h1 : C ≠ Nb
  h2 : C ≠ Lb
  h3 : Nb ≠ Lb
theorem NewAt.done {w : World} {C Nb Lb n l : Nat} (h : NewAt w C Nb Lb n l (n * 3) (l * 3)) (h1 : n ≤ 1048576) (h2 : l ≤ 1048576) : ChainRows w C Nb Lb n l PC.none0 := by
  refine ⟨PC.CS.none, ?_, PC.inv_none n l⟩
  have fn : ∀ j, j < n * 3 → w.cell? ⟨Nb, j, none⟩ = some (.int .i64 (-1)) := fun j hj => by rw [h.rn.cell, filled_get _ _ hj, if_pos hj]
  have fl : ∀ j, j < l * 3 → w.cell? ⟨Lb, j, none⟩ = some (lfill j) := fun j hj => by rw [h.rl.cell, filled_get _ _ hj, if_pos hj]
  exact {
    c0 := by rw [h.rc.cell]; rfl
    c1 := by rw [h.rc.cell]; rfl
    n0 := fun i hi => fn _ (by omega)
    n1 := fun i hi => fn _ (by omega)
    n2 := fun i hi => fn _ (by omega)
    l0 := fun i hi => by rw [fl _ (by omega), lfill0]; rfl
    l1 := fun i hi => by rw [fl _ (by omega), lfill1]; rfl
    l2 := fun i hi => by rw [fl _ (by omega), lfill2]; rfl
    fzn := fun j => h.rn.frozen j
    fzl := fun j => h.rl.frozen j
    hC := h.rc.lt
    hN := h.rn.lt
    hL := h.rl.lt
    aCN := h.h1
    aCL := h.h2
    aNL := h.h3
    bn := h1
    bl := h2 }
/-- A cell of another block, behind a round's stores. -/
theorem keep3 {w : World} {C Nb a b c o : Nat} {x y z v : Value} {ob : Obj} (h : w.cell? ⟨C, o, none⟩ = some v) (hC : C < w.heap.size) (hne : C ≠ Nb) :
    ((((w.setCell ⟨Nb, a, none⟩ x).setCell ⟨Nb, b, none⟩ y).setCell ⟨Nb, c, none⟩ z).alloc ob).drew.cell? ⟨C, o, none⟩ = some v := by
  have e := fun (W : World) (p : Addr) (u : Value) (hp : p.block = Nb) => World.cell?_setCell_other W p ⟨C, o, none⟩ u (by rintro rfl; exact hne hp)
  have e2 := fun (W : World) (hW : C < W.heap.size) => Below.cell (((Below.refl W.heap.size W).alloc (Nat.le_refl _) ob).drew) (p := ⟨C, o, none⟩) hW
  rw [e2 _ (by simpa [World.setCell] using hC), e _ _ _ rfl, e _ _ _ rfl, e _ _ _ rfl, h]
theorem keep2 {w : World} {C Nb a b o : Nat} {x y v : Value} {ob : Obj} (h : w.cell? ⟨C, o, none⟩ = some v) (hC : C < w.heap.size) (hne : C ≠ Nb) :
    (((w.setCell ⟨Nb, a, none⟩ x).setCell ⟨Nb, b, none⟩ y).alloc ob).drew.cell? ⟨C, o, none⟩ = some v := by
  have e := fun (W : World) (p : Addr) (u : Value) (hp : p.block = Nb) => World.cell?_setCell_other W p ⟨C, o, none⟩ u (by rintro rfl; exact hne hp)
  have e2 := fun (W : World) (hW : C < W.heap.size) => Below.cell (((Below.refl W.heap.size W).alloc (Nat.le_refl _) ob).drew) (p := ⟨C, o, none⟩) hW
  rw [e2 _ (by simpa [World.setCell] using hC), e _ _ _ rfl, e _ _ _ rfl, h]
theorem NewAt.node {w : World} {C Nb Lb n l k b : Nat} (h : NewAt w C Nb Lb n l (k * 3) b) (o : Obj) :
    NewAt ((((w.setCell ⟨Nb, k * 3, none⟩ (.int .i64 (-1))).setCell ⟨Nb, k * 3 + 1, none⟩ (.int .i64 (-1))).setCell ⟨Nb, k * 3 + 2, none⟩ (.int .i64 (-1))).alloc o).drew C Nb Lb n l ((k + 1) * 3) b where
  rc := RowAt.drewN ((((h.rc.far (p := ⟨Nb, k * 3, none⟩) h.h1 _).far (p := ⟨Nb, k * 3 + 1, none⟩) h.h1 _).far (p := ⟨Nb, k * 3 + 2, none⟩) h.h1 _).alloc o) 1
  rl := RowAt.drewN ((((h.rl.far (p := ⟨Nb, k * 3, none⟩) (Ne.symm h.h3) _).far (p := ⟨Nb, k * 3 + 1, none⟩) (Ne.symm h.h3) _).far (p := ⟨Nb, k * 3 + 2, none⟩) (Ne.symm h.h3) _).alloc o) 1
  rn := by
    have := RowAt.drewN ((((h.rn.set_ (k * 3) (.int .i64 (-1))).set_ (k * 3 + 1) (.int .i64 (-1))).set_ (k * 3 + 2) (.int .i64 (-1))).alloc o) 1
    rwa [filled_set _ (k * 3) (fun _ => .int .i64 (-1)), filled_set _ (k * 3 + 1) (fun _ => .int .i64 (-1)), filled_set _ (k * 3 + 2) (fun _ => .int .i64 (-1)), show k * 3 + 2 + 1 = (k + 1) * 3 by omega] at this
  h1 := h.h1
  h2 := h.h2
  h3 := h.h3
theorem NewAt.list {w : World} {C Nb Lb n l k a : Nat} (h : NewAt w C Nb Lb n l a (k * 3)) (o : Obj) :
    NewAt (((w.setCell ⟨Lb, k * 3, none⟩ (.int .i64 (-1))).setCell ⟨Lb, k * 3 + 1, none⟩ (.int .i64 (-1))).alloc o).drew C Nb Lb n l a ((k + 1) * 3) where
  rc := RowAt.drewN (((h.rc.far (p := ⟨Lb, k * 3, none⟩) h.h2 _).far (p := ⟨Lb, k * 3 + 1, none⟩) h.h2 _).alloc o) 1
  rn := RowAt.drewN (((h.rn.far (p := ⟨Lb, k * 3, none⟩) h.h3 _).far (p := ⟨Lb, k * 3 + 1, none⟩) h.h3 _).alloc o) 1
  rl := by
    have := RowAt.drewN (((h.rl.set_ (k * 3) (.int .i64 (-1))).set_ (k * 3 + 1) (.int .i64 (-1))).alloc o) 1
    have e0 := filled_set (l * 3) (k * 3) lfill (.int .i64 0)
    have e1 := filled_set (l * 3) (k * 3 + 1) lfill (.int .i64 0)
    rw [lfill0] at e0
    rw [lfill1] at e1
    rwa [e0, e1, filled_same _ (k * 3 + 1 + 1) _ _ (lfill2 k), show k * 3 + 1 + 1 + 1 = (k + 1) * 3 by omega] at this
  h1 := h.h1
  h2 := h.h2
  h3 := h.h3

def NewRel1 (w : World) (C Nb Lb n l : Nat) (i : Value) (wr : World) : Prop := ∃ k : Nat, k ≤ n ∧ i = .int .i64 k ∧ NewAt wr C Nb Lb n l (k * 3) 0 ∧ Below w.heap.size w wr
def NewRel2 (w : World) (C Nb Lb n l : Nat) (i : Value) (wr : World) : Prop := ∃ k : Nat, k ≤ l ∧ i = .int .i64 k ∧ NewAt wr C Nb Lb n l (n * 3) (k * 3) ∧ Below w.heap.size w wr

set_option maxHeartbeats 4000000 in
theorem chain_New_yes (l n : Nat) (w : World) (h1 : l ≤ 1048576) (h2 : n ≤ 1048576) :
    Calls Try.prog 18 #[.int .i64 l, .int .i64 n] w (MadeChain w n l) := by
  have hinfo : (Try.prog.info? 125).map (fun i => (i.zero, i.size, i.bytes)) = some (some (.agg #[.int .i64 0, .int .i64 0, .int .i64 0]), 3, 24) := by kernel_rfl
  have hinfo2 : (Try.prog.info? 127).map (fun i => (i.zero, i.size, i.bytes)) = some (some (.agg #[.int .i64 0, .int .i64 0, .int .i64 0]), 3, 24) := by kernel_rfl
  have hmk := run_make_agg (P := Try.prog) 42 125 _ #[.int .i64 0, .int .i64 0, .int .i64 0] 3 24 Try.underlying42 hinfo rfl .i64 .i64 n (by omega) (by omega)
  have hmk2 := run_make_agg (P := Try.prog) 43 127 _ #[.int .i64 0, .int .i64 0, .int .i64 0] 3 24 Try.underlying43 hinfo2 rfl .i64 .i64 l (by omega) (by omega)
  rw [filled_made3 _ _ (fun _ => .int .i64 (-1))] at hmk
  rw [filled_made3 _ _ lfill] at hmk2
  clear hinfo hinfo2
  have g1 : (0 : Int) ≤ (l : Int) := by omega
  have g2 : (0 : Int) ≤ (n : Int) := by omega
  have g3 : (l : Int) ≤ 1048576 := by omega
  have g4 : (n : Int) ≤ 1048576 := by omega
  go_enter Try.func18, Try.ntmps18
  go_wp2_with fail
  go_region
  all_goals clear hmk hmk2
  · refine post_name ?_
    intro W hW
    have hN : NewAt W (w.heap.size + 1 + 1) (w.heap.size) (w.heap.size + 1) n l 0 0 := by
      rw [hW]
      have q0 := RowAt.new ((w.alloc (.cells (filled (n * 3) 0 (fun _ => .int .i64 (-1)) (.int .i64 0)).toArray 125)).alloc (.cells (filled (l * 3) 0 lfill (.int .i64 0)).toArray 127)) 45 [.slice (some ⟨w.heap.size, 0, none⟩) n n, .slice (some ⟨w.heap.size + 1, 0, none⟩) l l]
      have q1 := ((RowAt.new w 125 (filled (n * 3) 0 (fun _ => .int .i64 (-1)) (.int .i64 0))).alloc (.cells (filled (l * 3) 0 lfill (.int .i64 0)).toArray 127)).alloc (.cells #[.slice (some ⟨w.heap.size, 0, none⟩) n n, .slice (some ⟨w.heap.size + 1, 0, none⟩) l l] 45)
      have q2 := (RowAt.new (w.alloc (.cells (filled (n * 3) 0 (fun _ => .int .i64 (-1)) (.int .i64 0)).toArray 125)) 127 (filled (l * 3) 0 lfill (.int .i64 0))).alloc (.cells #[.slice (some ⟨w.heap.size, 0, none⟩) n n, .slice (some ⟨w.heap.size + 1, 0, none⟩) l l] 45)
      simp only [World.size_alloc] at q0 q1 q2
      exact { rc := q0, rn := q1, rl := q2, h1 := by omega, h2 := by omega, h3 := by omega }
    have hB : Below w.heap.size w W := by rw [hW]; exact (by repeat (first | exact Below.refl _ _ | assumption | refine bel_drew ?_ | refine bel_drewN ?_ _ | refine bel_alloc ?_ _ | refine bel_set ?_ (by first | (dsimp only; omega) | (simp; done) | (simp; omega)) _ | refine bel_trans ?_ (by assumption)))
    clear hW
    obtain ⟨C, hC⟩ : ∃ C, w.heap.size + 1 + 1 = C := ⟨_, rfl⟩
    obtain ⟨Nb, hNb⟩ : ∃ Nb, w.heap.size = Nb := ⟨_, rfl⟩
    obtain ⟨Lb, hLb⟩ : ∃ Lb, w.heap.size + 1 = Lb := ⟨_, rfl⟩
    have b1 : w.heap.size ≤ C := by omega
    have b2 : w.heap.size ≤ Nb := by omega
    have b3 : w.heap.size ≤ Lb := by omega
    rw [hC, hLb, hNb] at hN
    rw [hC]
    rw [hLb, hNb]
    clear hC hNb hLb
    have HN := Lib.hid hN
    have HB := Lib.hid hB
    have c0 : W.cell? ⟨C, 0, none⟩ = some (.slice (some ⟨Nb, 0, none⟩) n n) := by rw [hN.rc.cell]; rfl
    clear hN hB
    go_wp2_with fail
    clear c0
    go_loopw [34] (fun i wr => NewRel1 w C Nb Lb n l i wr) (fun i _ => n - (intOf i).toNat)
    case atStart => exact ⟨0, Nat.zero_le _, rfl, by simpa using HN.out, HB.out⟩
    case round =>
      clear HN HB
      obtain ⟨k, hk, rfl, hA, hbel⟩ := hrel
      have c0 : wr.cell? ⟨C, 0, none⟩ = some (.slice (some ⟨Nb, 0, none⟩) n n) := by rw [hA.rc.cell]; rfl
      have c1 : wr.cell? ⟨C, 1, none⟩ = some (.slice (some ⟨Lb, 0, none⟩) l l) := by rw [hA.rc.cell]; rfl
      have l1 := hA.rn.lt
      have l2 := hA.rc.lt
      have a1 := hA.h1
      have HA := Lib.hid hA
      have HBL := Lib.hid hbel
      have j1 : (0 : Int) ≤ (k : Int) := by omega
      by_cases hlt : (k : Int) < n
      · have s0 : wr.cell? ⟨Nb, k * 3, none⟩ = some (.int .i64 0) := by rw [hA.rn.cell, filled_get _ _ (by omega), if_neg (by omega)]
        have s1 : wr.cell? ⟨Nb, k * 3 + 1, none⟩ = some (.int .i64 0) := by rw [hA.rn.cell, filled_get _ _ (by omega), if_neg (by omega)]
        have s2 : wr.cell? ⟨Nb, k * 3 + 2, none⟩ = some (.int .i64 0) := by rw [hA.rn.cell, filled_get _ _ (by omega), if_neg (by omega)]
        have f0 : ∀ j, wr.frozen? ⟨Nb, j, none⟩ = false := hA.rn.frozen
        clear hA hbel c1
        go_wp2_with fail
        go_region_held3 (fun w' => w'.cell? ⟨C, 0, none⟩ = some (.slice (some ⟨Nb, 0, none⟩) n n)) (first | with_reducible exact keep3 c0 l2 a1 | go_keep) (first | (go_at_call 100; refine (chain_none _).mono ?_; rintro e w5 ⟨rfl, rfl⟩))
        go_wp2_with fail
        go_roundw
        case rel =>
          refine ⟨k + 1, by omega, by go_num, HA.out.node _, ?_⟩
          exact (bel_alloc (((HBL.out.setCell (by dsimp only; omega) _).setCell (by dsimp only; omega) _).setCell (by dsimp only; omega) _) _).drew
        case measure => simp [intOf]; omega
      · obtain rfl : k = n := by omega
        clear hA hbel c0
        go_wp2_with fail
        go_loopw [52] (fun i wr => NewRel2 w C Nb Lb k l i wr) (fun i _ => l - (intOf i).toNat)
        case atStart => exact ⟨0, Nat.zero_le _, rfl, by simpa using HA.out, HBL.out⟩
        case round =>
          clear HA HBL
          obtain ⟨m, hm, rfl, hA, hbel⟩ := hrel
          have c0 : wr.cell? ⟨C, 0, none⟩ = some (.slice (some ⟨Nb, 0, none⟩) k k) := by rw [hA.rc.cell]; rfl
          have c1 : wr.cell? ⟨C, 1, none⟩ = some (.slice (some ⟨Lb, 0, none⟩) l l) := by rw [hA.rc.cell]; rfl
          have l3 := hA.rl.lt
          have l2 := hA.rc.lt
          have a2 := hA.h2
          have HA := Lib.hid hA
          have HBL := Lib.hid hbel
          have j1 : (0 : Int) ≤ (m : Int) := by omega
          by_cases hlt2 : (m : Int) < l
          · have s0 : wr.cell? ⟨Lb, m * 3, none⟩ = some (.int .i64 0) := by rw [hA.rl.cell, filled_get _ _ (by omega), if_neg (by omega)]
            have s1 : wr.cell? ⟨Lb, m * 3 + 1, none⟩ = some (.int .i64 0) := by rw [hA.rl.cell, filled_get _ _ (by omega), if_neg (by omega)]
            have f0 : ∀ j, wr.frozen? ⟨Lb, j, none⟩ = false := hA.rl.frozen
            clear hA hbel c0
            go_wp2_with fail
            go_region_held3 (fun w' => w'.cell? ⟨C, 1, none⟩ = some (.slice (some ⟨Lb, 0, none⟩) l l)) (first | with_reducible exact keep2 c1 l2 a2 | go_keep) (first | (go_at_call 100; refine (chain_none _).mono ?_; rintro e w5 ⟨rfl, rfl⟩))
            go_wp2_with fail
            go_roundw
            case rel =>
              refine ⟨m + 1, by omega, by go_num, HA.out.list _, ?_⟩
              exact (bel_alloc ((HBL.out.setCell (by dsimp only; omega) _).setCell (by dsimp only; omega) _) _).drew
            case measure => simp [intOf]; omega
          · obtain rfl : m = l := by omega
            clear hA hbel c0 c1
            go_wp2_with fail
            go_ret
            exact ⟨C, Nb, Lb, rfl, HA.out.done h2 h1, HBL.out, b1, b2, b3⟩
  · refine post_name ?_
    intro W hW
    have hN : NewAt W (w.heap.size + 1 + 1) (w.heap.size + 1) (w.heap.size) n l 0 0 := by
      rw [hW]
      have q0 := RowAt.new ((w.alloc (.cells (filled (l * 3) 0 lfill (.int .i64 0)).toArray 127)).alloc (.cells (filled (n * 3) 0 (fun _ => .int .i64 (-1)) (.int .i64 0)).toArray 125)) 45 [.slice (some ⟨w.heap.size + 1, 0, none⟩) n n, .slice (some ⟨w.heap.size, 0, none⟩) l l]
      have q1 := ((RowAt.new w 127 (filled (l * 3) 0 lfill (.int .i64 0))).alloc (.cells (filled (n * 3) 0 (fun _ => .int .i64 (-1)) (.int .i64 0)).toArray 125)).alloc (.cells #[.slice (some ⟨w.heap.size + 1, 0, none⟩) n n, .slice (some ⟨w.heap.size, 0, none⟩) l l] 45)
      have q2 := (RowAt.new (w.alloc (.cells (filled (l * 3) 0 lfill (.int .i64 0)).toArray 127)) 125 (filled (n * 3) 0 (fun _ => .int .i64 (-1)) (.int .i64 0))).alloc (.cells #[.slice (some ⟨w.heap.size + 1, 0, none⟩) n n, .slice (some ⟨w.heap.size, 0, none⟩) l l] 45)
      simp only [World.size_alloc] at q0 q1 q2
      exact { rc := q0, rl := q1, rn := q2, h1 := by omega, h2 := by omega, h3 := by omega }
    have hB : Below w.heap.size w W := by rw [hW]; exact (by repeat (first | exact Below.refl _ _ | assumption | refine bel_drew ?_ | refine bel_drewN ?_ _ | refine bel_alloc ?_ _ | refine bel_set ?_ (by first | (dsimp only; omega) | (simp; done) | (simp; omega)) _ | refine bel_trans ?_ (by assumption)))
    clear hW
    obtain ⟨C, hC⟩ : ∃ C, w.heap.size + 1 + 1 = C := ⟨_, rfl⟩
    obtain ⟨Nb, hNb⟩ : ∃ Nb, w.heap.size + 1 = Nb := ⟨_, rfl⟩
    obtain ⟨Lb, hLb⟩ : ∃ Lb, w.heap.size = Lb := ⟨_, rfl⟩
    have b1 : w.heap.size ≤ C := by omega
    have b2 : w.heap.size ≤ Nb := by omega
    have b3 : w.heap.size ≤ Lb := by omega
    rw [hC, hNb, hLb] at hN
    rw [hC]
    rw [hNb, hLb]
    clear hC hNb hLb
    have HN := Lib.hid hN
    have HB := Lib.hid hB
    have c0 : W.cell? ⟨C, 0, none⟩ = some (.slice (some ⟨Nb, 0, none⟩) n n) := by rw [hN.rc.cell]; rfl
    clear hN hB
    go_wp2_with fail
    clear c0
    go_loopw [34] (fun i wr => NewRel1 w C Nb Lb n l i wr) (fun i _ => n - (intOf i).toNat)
    case atStart => exact ⟨0, Nat.zero_le _, rfl, by simpa using HN.out, HB.out⟩
    case round =>
      clear HN HB
      obtain ⟨k, hk, rfl, hA, hbel⟩ := hrel
      have c0 : wr.cell? ⟨C, 0, none⟩ = some (.slice (some ⟨Nb, 0, none⟩) n n) := by rw [hA.rc.cell]; rfl
      have c1 : wr.cell? ⟨C, 1, none⟩ = some (.slice (some ⟨Lb, 0, none⟩) l l) := by rw [hA.rc.cell]; rfl
      have l1 := hA.rn.lt
      have l2 := hA.rc.lt
      have a1 := hA.h1
      have HA := Lib.hid hA
      have HBL := Lib.hid hbel
      have j1 : (0 : Int) ≤ (k : Int) := by omega
      by_cases hlt : (k : Int) < n
      · have s0 : wr.cell? ⟨Nb, k * 3, none⟩ = some (.int .i64 0) := by rw [hA.rn.cell, filled_get _ _ (by omega), if_neg (by omega)]
        have s1 : wr.cell? ⟨Nb, k * 3 + 1, none⟩ = some (.int .i64 0) := by rw [hA.rn.cell, filled_get _ _ (by omega), if_neg (by omega)]
        have s2 : wr.cell? ⟨Nb, k * 3 + 2, none⟩ = some (.int .i64 0) := by rw [hA.rn.cell, filled_get _ _ (by omega), if_neg (by omega)]
        have f0 : ∀ j, wr.frozen? ⟨Nb, j, none⟩ = false := hA.rn.frozen
        clear hA hbel c1
        go_wp2_with fail
        go_region_held3 (fun w' => w'.cell? ⟨C, 0, none⟩ = some (.slice (some ⟨Nb, 0, none⟩) n n)) (first | with_reducible exact keep3 c0 l2 a1 | go_keep) (first | (go_at_call 100; refine (chain_none _).mono ?_; rintro e w5 ⟨rfl, rfl⟩))
        go_wp2_with fail
        go_roundw
        case rel =>
          refine ⟨k + 1, by omega, by go_num, HA.out.node _, ?_⟩
          exact (bel_alloc (((HBL.out.setCell (by dsimp only; omega) _).setCell (by dsimp only; omega) _).setCell (by dsimp only; omega) _) _).drew
        case measure => simp [intOf]; omega
      · obtain rfl : k = n := by omega
        clear hA hbel c0
        go_wp2_with fail
        go_loopw [52] (fun i wr => NewRel2 w C Nb Lb k l i wr) (fun i _ => l - (intOf i).toNat)
        case atStart => exact ⟨0, Nat.zero_le _, rfl, by simpa using HA.out, HBL.out⟩
        case round =>
          clear HA HBL
          obtain ⟨m, hm, rfl, hA, hbel⟩ := hrel
          have c0 : wr.cell? ⟨C, 0, none⟩ = some (.slice (some ⟨Nb, 0, none⟩) k k) := by rw [hA.rc.cell]; rfl
          have c1 : wr.cell? ⟨C, 1, none⟩ = some (.slice (some ⟨Lb, 0, none⟩) l l) := by rw [hA.rc.cell]; rfl
          have l3 := hA.rl.lt
          have l2 := hA.rc.lt
          have a2 := hA.h2
          have HA := Lib.hid hA
          have HBL := Lib.hid hbel
          have j1 : (0 : Int) ≤ (m : Int) := by omega
          by_cases hlt2 : (m : Int) < l
          · have s0 : wr.cell? ⟨Lb, m * 3, none⟩ = some (.int .i64 0) := by rw [hA.rl.cell, filled_get _ _ (by omega), if_neg (by omega)]
            have s1 : wr.cell? ⟨Lb, m * 3 + 1, none⟩ = some (.int .i64 0) := by rw [hA.rl.cell, filled_get _ _ (by omega), if_neg (by omega)]
            have f0 : ∀ j, wr.frozen? ⟨Lb, j, none⟩ = false := hA.rl.frozen
            clear hA hbel c0
            go_wp2_with fail
            go_region_held3 (fun w' => w'.cell? ⟨C, 1, none⟩ = some (.slice (some ⟨Lb, 0, none⟩) l l)) (first | with_reducible exact keep2 c1 l2 a2 | go_keep) (first | (go_at_call 100; refine (chain_none _).mono ?_; rintro e w5 ⟨rfl, rfl⟩))
            go_wp2_with fail
            go_roundw
            case rel =>
              refine ⟨m + 1, by omega, by go_num, HA.out.list _, ?_⟩
              exact (bel_alloc ((HBL.out.setCell (by dsimp only; omega) _).setCell (by dsimp only; omega) _) _).drew
            case measure => simp [intOf]; omega
          · obtain rfl : m = l := by omega
            clear hA hbel c0 c1
            go_wp2_with fail
            go_ret
            exact ⟨C, Nb, Lb, rfl, HA.out.done h2 h1, HBL.out, b1, b2, b3⟩
end Go.Proofs.Ytdhcmnbajkpjiaa
/-
  Chain: one hypothesis for a chain that a call made; the example of the chapter.
-/
namespace Go.Proofs.Ytdhcmnbajkpjiaa
open Go.RowKit
set_option linter.unusedVariables false
attribute [local go_sem] drewN_alloc drewN_setCell

/-- A chain made since w0; all that was there at w0 is as it was. -/
structure ChainOver (w0 w : World) (C Nb Lb n l : Nat) (R : Nat → List Nat) : Prop where
  rows : ChainRows w C Nb Lb n l R
  below : Below w0.heap.size w0 w
  b1 : w0.heap.size ≤ C
  b2 : w0.heap.size ≤ Nb
  b3 : w0.heap.size ≤ Lb

theorem ChainRows.lt1 {w : World} {C Nb Lb n l : Nat} {R : Nat → List Nat} (h : ChainRows w C Nb Lb n l R) : C < w.heap.size ∧ Nb < w.heap.size ∧ Lb < w.heap.size := by
  obtain ⟨S, h1, h2⟩ := h
  exact ⟨h1.hC, h1.hN, h1.hL⟩
section
variable {w0 w w' : World} {C Nb Lb n l : Nat} {R : Nat → List Nat}
theorem ChainOver.keep (h : ChainOver w0 w C Nb Lb n l R) (hb : Below w.heap.size w w') : ChainOver w0 w' C Nb Lb n l R :=
  ⟨h.rows.keep hb, bel_trans h.below hb, h.b1, h.b2, h.b3⟩
theorem IntsFrom.off {B : Nat} {A : Option Addr} {m : Nat} {xs : List Int} (h : IntsFrom B w A m xs) (h1 : Nb < B) (h2 : Lb < B) (o : Off Nb Lb w w') : IntsFrom B w' A m xs :=
  ⟨⟨h.1.1, h.1.2.1, fun hn => by
    obtain ⟨b, off, e, hb, hc⟩ := h.1.2.2 hn
    obtain ⟨b', off', e', hb'⟩ := h.2 hn
    subst e
    simp only [Option.some.injEq, Addr.mk.injEq] at e'
    obtain ⟨rfl, rfl, -⟩ := e'
    exact ⟨b, off, rfl, Nat.lt_of_lt_of_le hb o.size, fun i hi => (o.cell (a := ⟨b, off + i, none⟩) (by show b ≠ Nb; omega) (by show b ≠ Lb; omega) hb).trans (hc i hi)⟩⟩, h.2⟩

theorem over_New (l n : Nat) (w : World) (h1 : l ≤ 1048576) (h2 : n ≤ 1048576) :
    Calls Try.prog 18 #[.int .i64 l, .int .i64 n] w fun e w' => ∃ C Nb Lb, e = .returned (.pointer (some ⟨C, 0, none⟩)) ∧ ChainOver w w' C Nb Lb n l PC.none0 :=
  (chain_New_yes l n w h1 h2).mono fun e w' ⟨C, Nb, Lb, he, h3, h4, h5, h6, h7⟩ => ⟨C, Nb, Lb, he, h3, h4, h5, h6, h7⟩
theorem over_Add (i x : Int) (h : ChainOver w0 w C Nb Lb n l R) :
    Calls Try.prog 19 #[.pointer (some ⟨C, 0, none⟩), .int .i64 i, .int .i64 x] w fun e w' => e = .returned (.bool (PC.addB n l R i x)) ∧ ChainOver w0 w' C Nb Lb n l (PC.addR n l R i x) ∧ Off Nb Lb w w' :=
  (chain_Add i x h.rows).mono fun e w' ⟨he, hr, ho⟩ => ⟨he, ⟨hr, h.below.trans (ho.below h.b2 h.b3 h.below.size), h.b1, h.b2, h.b3⟩, ho⟩
theorem over_Drop (x : Int) (h : ChainOver w0 w C Nb Lb n l R) :
    Calls Try.prog 21 #[.pointer (some ⟨C, 0, none⟩), .int .i64 x] w fun e w' => e = .returned (.bool (PC.dropB l R x)) ∧ ChainOver w0 w' C Nb Lb n l (PC.dropR l R x) ∧ Off Nb Lb w w' :=
  (chain_Drop x h.rows).mono fun e w' ⟨he, hr, ho⟩ => ⟨he, ⟨hr, h.below.trans (ho.below h.b2 h.b3 h.below.size), h.b1, h.b2, h.b3⟩, ho⟩
end

/-- One slice of one int, just made. -/
theorem ints_one (w : World) (t : TypeId) (x : Int) : IntsAt (w.alloc (.cells #[.int .i64 x] t)) (some ⟨w.heap.size, 0, none⟩) 1 [x] :=
  ⟨rfl, by omega, fun _ => ⟨w.heap.size, 0, rfl, by simp, fun i hi => by
    have e : i = 0 := by omega
    subst e
    simp [go_sem]⟩⟩

set_option maxHeartbeats 1000000 in
theorem law05_works (w : World) : Calls Try.prog 17 #[] w fun e w' => e = .returned (.bool true) ∧ Below w.heap.size w w' := by
  have A1 := fun (W : World) (C Nb Lb : Nat) (h : ChainOver w W C Nb Lb 6 2 PC.none0) => over_Add 0 5 h
  have A2 := fun (W : World) (C Nb Lb : Nat) (h : ChainOver w W C Nb Lb 6 2 (PC.addR 6 2 PC.none0 0 5)) => over_Add 0 3 h
  have A3 := fun (W : World) (C Nb Lb : Nat) (h : ChainOver w W C Nb Lb 6 2 (PC.addR 6 2 (PC.addR 6 2 PC.none0 0 5) 0 3)) => over_Add 1 5 h
  have A4 := fun (W : World) (C Nb Lb : Nat) (h : ChainOver w W C Nb Lb 6 2 (PC.addR 6 2 (PC.addR 6 2 (PC.addR 6 2 PC.none0 0 5) 0 3) 1 5)) => over_Drop 5 h
  rw [show PC.addB 6 2 PC.none0 0 5 = true by decide +kernel] at A1
  rw [show PC.addB 6 2 (PC.addR 6 2 PC.none0 0 5) 0 3 = true by decide +kernel] at A2
  rw [show PC.addB 6 2 (PC.addR 6 2 (PC.addR 6 2 PC.none0 0 5) 0 3) 1 5 = false by decide +kernel] at A3
  rw [show PC.dropB 2 (PC.addR 6 2 (PC.addR 6 2 (PC.addR 6 2 PC.none0 0 5) 0 3) 1 5) 5 = true by decide +kernel] at A4
  obtain ⟨R, hR⟩ : ∃ R, PC.dropR 2 (PC.addR 6 2 (PC.addR 6 2 (PC.addR 6 2 PC.none0 0 5) 0 3) 1 5) 5 = R := ⟨_, rfl⟩
  have v1 : ints (PC.rowV 2 R 0) = [3] := by rw [← hR]; decide +kernel
  have v2 : PC.ofV 2 R 3 = 0 := by rw [← hR]; decide +kernel
  have v3 : PC.ofV 2 R 5 = -1 := by rw [← hR]; decide +kernel
  have v4 : PC.headD (PC.rowV 2 R 0) = 3 := by rw [← hR]; decide +kernel
  rw [hR] at A4
  have B1 := fun (W : World) (C Nb Lb : Nat) (h : ChainRows W C Nb Lb 6 2 R) => chain_List 0 h
  have B2 := fun (W : World) (C Nb Lb : Nat) (h : ChainRows W C Nb Lb 6 2 R) => chain_Of 3 h
  have B3 := fun (W : World) (C Nb Lb : Nat) (h : ChainRows W C Nb Lb 6 2 R) => chain_Of 5 h
  have B4 := fun (W : World) (C Nb Lb : Nat) (h : ChainRows W C Nb Lb 6 2 R) => chain_First 0 h
  rw [v1] at B1
  rw [v2] at B2
  rw [v3] at B3
  rw [v4] at B4
  have N := Lib.hid (over_New 2 6 w (by omega) (by omega))
  replace A1 := Lib.hid A1
  replace A2 := Lib.hid A2
  replace A3 := Lib.hid A3
  replace A4 := Lib.hid A4
  replace B1 := Lib.hid B1
  replace B2 := Lib.hid B2
  replace B3 := Lib.hid B3
  replace B4 := Lib.hid B4
  clear v1 v2 v3 v4 hR
  go_enter Try.func17, Try.ntmps17
  go_wp2_with fail
  refine N.out.mono ?_
  rintro e w1 ⟨C, Nb, Lb, rfl, h1⟩
  replace h1 := Lib.hid h1
  go_wp2_with fail
  refine (A1.out _ _ _ _ h1.out).mono ?_
  rintro e w2 ⟨rfl, h2, -⟩
  replace h2 := Lib.hid h2
  go_wp2_with fail
  refine (A2.out _ _ _ _ h2.out).mono ?_
  rintro e w3 ⟨rfl, h3, -⟩
  replace h3 := Lib.hid h3
  go_wp2_with fail
  refine (A3.out _ _ _ _ h3.out).mono ?_
  rintro e w4 ⟨rfl, h4, -⟩
  replace h4 := Lib.hid h4
  go_wp2_with fail
  refine (A4.out _ _ _ _ h4.out).mono ?_
  rintro e w5 ⟨rfl, h5, -⟩
  replace h5 := Lib.hid h5
  go_wp2_with fail
  refine (B1.out _ _ _ _ h5.out.rows).mono ?_
  rintro e w6 ⟨A, m, c, rfl, hA, hb⟩
  replace h6 := Lib.hid (h5.out.keep hb)
  replace hA := Lib.hid hA
  clear hb
  go_wp2_with fail
  refine (base_SameInts c 1 (hA.out.1.keep (bel_alloc (Below.refl _ _) _)) (ints_one _ _ 3)).mono ?_
  rintro e w7 ⟨rfl, hb⟩
  have h7 := Lib.hid (h6.out.keep (bel_trans (bel_alloc (Below.refl _ _) _) hb))
  clear hb
  go_wp2_with fail
  refine (B2.out _ _ _ _ h7.out.rows).mono ?_
  rintro e w8 ⟨rfl, rfl⟩
  go_wp2_with fail
  refine (B3.out _ _ _ _ h7.out.rows).mono ?_
  rintro e w8 ⟨rfl, rfl⟩
  go_wp2_with fail
  refine (B4.out _ _ _ _ h7.out.rows).mono ?_
  rintro e w8 ⟨rfl, rfl⟩
  go_wp2_with fail
  go_ret
  exact ⟨rfl, h7.out.below⟩
end Go.Proofs.Ytdhcmnbajkpjiaa
/-
  append onto a row of the call's own, of elements of any size, from a slice that may be nil.
-/
namespace Go.Proofs.Ytdhcmnbajkpjiaa
open Go.RowKit
set_option linter.unusedVariables false

/-- The cells of m elements of sz cells each, from A on (none: no cell), hold news. -/
def SrcS (sz : Nat) (w : World) (A : Option Addr) (m : Nat) (news : List Value) : Prop :=
  news.length = m * sz ∧ (A = none → m = 0) ∧ ∀ ad, A = some ad → ∀ j u, news[j]? = some u → w.cell? (ad.add j) = some u
theorem addr_addS (b off j : Nat) : (⟨b, off, none⟩ : Addr).add j = ⟨b, off + j, none⟩ := by unfold Addr.add; split <;> simp_all

section
variable {P : Program} (w : World)
theorem run_append_S (sz : Nat) (h0 : 0 < sz) (base : Nat) (t ty e : TypeId) (i : TypeInfo) (z : Value) (bytes : Nat) (ht : P.underlying t = some (.slice e)) (hi : P.info? e = some i) (hz : i.zero = some z)
    (hsize : i.size = sz) (hby : i.bytes = bytes) (hzs : z.cells.size = sz) (v : Value) (n : Nat) (xs : List Value) (hown : w.ownsRow base e sz v n xs)
    (A : Option Addr) (m c : Nat) (news : List Value) (hs : SrcS sz w A m news) (h1 : ∀ u ∈ news, u.oneCell' = true)
    (h63 : n + m ≤ maxLen) (hbytes : (n + m) * bytes ≤ 140737488355328) (hbase : base ≤ w.heap.size) :
    ∃ v' w', (Builtin.append_ #[t, t] ty #[v, .slice A m c]).run P w = .ok v' w' ∧ w'.ownsRow base e sz v' (n + m) (xs ++ news) ∧ w.grownBy w' v.ownBlock ∧ (v'.ownBlock = v.ownBlock ∨ v'.ownBlock = some w.heap.size) := by
  obtain ⟨s1, s2, s3⟩ := hs
  rcases A with _ | ad
  · obtain rfl := s2 rfl
    rw [Nat.zero_mul] at s1
    obtain rfl := List.eq_nil_of_length_eq_zero s1
    refine ⟨v, w, ?_, by simpa using hown, World.grownBy.refl w _, .inl rfl⟩
    rcases hown.2 with ⟨rfl, rfl⟩ | ⟨g, cap, cur, rfl, _, _, hnc, _⟩
    · simp [Builtin.append_, run_underlying ht, sizeOf, typeInfo, hi, Builtin.lenOf, Builtin.firstCells]
    · simp [Builtin.append_, run_underlying ht, sizeOf, typeInfo, hi, Builtin.lenOf, Builtin.firstCells, hnc, storeCells]
  · obtain ⟨v', w', hr, h2, h3, _, h5⟩ := run_append_own_at (P := P) w base t ty e i z sz bytes ht hi hz hsize hby hzs h0 v n xs hown ad m c news s1 (s3 ad rfl) h1 h63 hbytes hbase
    exact ⟨v', w', hr, h2, h3, h5⟩

theorem wp_append_S {o : Oper} {a : Act} {K : Act → World → Prop} {Q : Exit → Act → World → Prop} (sz : Nat) (h0 : 0 < sz) (s x : Operand) (t : TypeId)
    (ho : o.op = .call { callee := .builtin .append, args := #[s, x], argTypes := #[t, t] })
    (base : Nat) (e : TypeId) (i : TypeInfo) (z : Value) (bytes : Nat) (ht : P.underlying t = some (.slice e)) (hi : P.info? e = some i) (hz : i.zero = some z)
    (hsize : i.size = sz) (hby : i.bytes = bytes) (hzs : z.cells.size = sz) (v : Value) (n : Nat) (xs : List Value) (hsv : a.eval s = v) (hown : w.ownsRow base e sz v n xs)
    (A : Option Addr) (m c : Nat) (news : List Value) (hx : a.eval x = .slice A m c) (hs : SrcS sz w A m news) (h1 : ∀ u ∈ news, u.oneCell' = true)
    (h63 : n + m ≤ maxLen) (hbytes : (n + m) * bytes ≤ 140737488355328) (hbase : base ≤ w.heap.size)
    (h : ∀ v' w', w'.ownsRow base e sz v' (n + m) (xs ++ news) → w.grownBy w' v.ownBlock → (v'.ownBlock = v.ownBlock ∨ v'.ownBlock = some w.heap.size) → K (a.put o.dst v') w') : o.wp P a w K Q := by
  obtain ⟨v', w', hr, h2, h3, h4⟩ := run_append_S (P := P) w sz h0 base t o.type e i z bytes ht hi hz hsize hby hzs v n xs hown A m c news hs h1 h63 hbytes hbase
  unfold Oper.wp execOp
  simp only [ho, resolve, invoke, builtin, Sem.run_bind, Sem.run_pure, Result.andThen_ok, List.map_toArray, List.map_cons, List.map_nil, hsv, hx, hr]
  exact h v' w' h2 h3 h4

theorem wpList_append_S {ops : Array Oper} {rest : List Oper} {o : Oper} {a : Act} {Q : Exit → Act → World → Prop} (hgd : o.guard = none) (sz : Nat) (h0 : 0 < sz) (s x : Operand) (t : TypeId)
    (ho : o.op = .call { callee := .builtin .append, args := #[s, x], argTypes := #[t, t] })
    (base : Nat) (e : TypeId) (i : TypeInfo) (z : Value) (bytes : Nat) (ht : P.underlying t = some (.slice e)) (hi : P.info? e = some i) (hz : i.zero = some z)
    (hsize : i.size = sz) (hby : i.bytes = bytes) (hzs : z.cells.size = sz) (v : Value) (n : Nat) (xs : List Value) (hsv : a.eval s = v) (hown : w.ownsRow base e sz v n xs)
    (A : Option Addr) (m c : Nat) (news : List Value) (hx : a.eval x = .slice A m c) (hs : SrcS sz w A m news) (h1 : ∀ u ∈ news, u.oneCell' = true)
    (h63 : n + m ≤ maxLen) (hbytes : (n + m) * bytes ≤ 140737488355328) (hbase : base ≤ w.heap.size)
    (h : ∀ v' w', w'.ownsRow base e sz v' (n + m) (xs ++ news) → w.grownBy w' v.ownBlock → (v'.ownBlock = v.ownBlock ∨ v'.ownBlock = some w.heap.size) → wpList P ops Q rest (a.put o.dst v') w') : wpList P ops Q (o :: rest) a w :=
  wpList_plain hgd fun _ hK => wp_append_S w sz h0 s x t ho base e i z bytes ht hi hz hsize hby hzs v n xs hsv hown A m c news hx hs h1 h63 hbytes hbase fun v' w' h2 h3 h4 => hK _ _ (h v' w' h2 h3 h4)
end
/-- What a slice literal without elements owns. -/
theorem own_emptyS (sz : Nat) (w : World) (t : TypeId) : (w.alloc (.cells #[] t)).ownsRow w.heap.size t sz (.slice (some ⟨w.heap.size, 0, none⟩) 0 0) 0 [] :=
  ⟨by simp, .inr ⟨w.heap.size, 0, #[], rfl, Nat.le_refl _, by show (w.heap.push _)[w.heap.size]? = _; simp, Nat.le_refl _, by unfold maxLen; omega, by simp, by simp⟩⟩
end Go.Proofs.Ytdhcmnbajkpjiaa
/-
  Slices of ints in memory of the call's own (as PageC, for a seat without pages).
-/
namespace Go.Proofs.Ytdhcmnbajkpjiaa
open Go.RowKit
set_option linter.unusedVariables false
set_option linter.unusedSimpArgs false
attribute [local go_sem] drewN_alloc drewN_setCell

def cellsI (l : List Int) : List Value := l.map (Value.int .i64)
theorem cellsI_one' (l : List Int) : ∀ u ∈ cellsI l, u.oneCell' = true := by
  intro u hu
  obtain ⟨x, _, rfl⟩ := List.mem_map.1 hu
  simp [Value.oneCell']
theorem cellsI_get {l : List Int} {j : Nat} {u : Value} (h : (cellsI l)[j]? = some u) : j < l.length ∧ u = .int .i64 (l.getD j 0) := by
  unfold cellsI at h
  rw [List.getElem?_map] at h
  by_cases hj : j < l.length
  · simp [hj] at h
    exact ⟨hj, by simp [List.getD, hj, ← h]⟩
  · simp [hj] at h
/-- v is a slice in memory from block B on, the call's own, that holds l. -/
def OwnI (B : Nat) (w : World) (v : Value) (l : List Int) : Prop := w.ownsRow B 3 1 v l.length (cellsI l)
theorem OwnI.nil (B : Nat) (w : World) : OwnI B w (.slice none 0 0) [] := World.ownsRow_nil w B _ 1
theorem OwnI.keep {B : Nat} {w w' : World} {v : Value} {l : List Int} (h : OwnI B w v l) (k : Below w.heap.size w w') : OwnI B w' v l := by
  refine ⟨h.1, ?_⟩
  rcases h.2 with ⟨rfl, e⟩ | ⟨g, cap, cur, rfl, hb, hg, r⟩
  · exact .inl ⟨rfl, e⟩
  · refine .inr ⟨g, cap, cur, rfl, hb, ?_, r⟩
    have hlt : g < w.heap.size := by
      rcases Nat.lt_or_ge g w.heap.size with hl | hge
      · exact hl
      · rw [Array.getElem?_eq_none hge] at hg; cases hg
    exact (k.block g hlt).trans hg
theorem OwnI.mono {B B' : Nat} {w : World} {v : Value} {l : List Int} (h : OwnI B w v l) (hB : B' ≤ B) : OwnI B' w v l := by
  refine ⟨h.1, ?_⟩
  rcases h.2 with ⟨rfl, e⟩ | ⟨g, cap, cur, rfl, hb, r⟩
  · exact .inl ⟨rfl, e⟩
  · exact .inr ⟨g, cap, cur, rfl, by omega, r⟩
theorem OwnI.ints {B : Nat} {w : World} {v : Value} {l : List Int} (h : OwnI B w v l) : ∃ A c, v = .slice A l.length c ∧ IntsAt w A l.length l ∧ l.length ≤ c ∧ c ≤ 9223372036854775807 := by
  rcases h.2 with ⟨rfl, e⟩ | ⟨g, cap, cur, rfl, hb, hg, hn, hcm, hcs, hx⟩
  · obtain rfl := List.eq_nil_of_length_eq_zero e
    exact ⟨none, 0, rfl, IntsAt.nil, Nat.le_refl _, by omega⟩
  · have hcm' : cap ≤ 9223372036854775807 := by unfold maxLen at hcm; omega
    refine ⟨_, _, rfl, ⟨rfl, by omega, fun h0 => ⟨g, 0, rfl, ?_, fun i hi => ?_⟩⟩, hn, hcm'⟩
    · rcases Nat.lt_or_ge g w.heap.size with hl | hge
      · exact hl
      · rw [Array.getElem?_eq_none hge] at hg; cases hg
    · rw [Nat.zero_add, World.ownsRow.cellAt (w := w) (base := B) (e := 3) (size := 1) h i (by omega)]
      simp [cellsI, List.getD, hi]
theorem OwnI.of_row {B g n : Nat} {w : World} {l : List Int} (hB : B ≤ g) (hg : w.heap[g]? = some (.cells (cellsI l).toArray 3 (0, 0))) (hn : n = l.length) (hm : n ≤ 100000) : OwnI B w (.slice (some ⟨g, 0, none⟩) n n) l := by
  subst hn
  refine ⟨by simp [cellsI], .inr ⟨g, l.length, (cellsI l).toArray, rfl, hB, hg, Nat.le_refl _, by unfold maxLen; omega, by simp [cellsI], ?_⟩⟩
  simp [cellsI]
  rw [List.take_of_length_le (by simp)]
theorem IntsAt.srcI {w : World} {A : Option Addr} {n : Nat} {l : List Int} (h : IntsAt w A n l) : SrcS 1 w A n (cellsI l) := by
  by_cases h0 : 0 < n
  · obtain ⟨b, off, rfl, hb, hc⟩ := h.2.2 h0
    refine ⟨by rw [Nat.mul_one]; simp [cellsI, h.1], fun e => by simp at e, fun ad e j u hu => ?_⟩
    obtain rfl : (⟨b, off, none⟩ : Addr) = ad := by simpa using e
    obtain ⟨hj, rfl⟩ := cellsI_get hu
    rw [addr_addS]
    exact hc j (by rw [← h.1]; exact hj)
  · obtain rfl : n = 0 := by omega
    obtain rfl := List.eq_nil_of_length_eq_zero h.1
    exact ⟨rfl, fun _ => rfl, fun ad e j u hu => by simp [cellsI] at hu⟩
theorem IntsAt.cells {w : World} {A : Option Addr} {n : Nat} {l : List Int} (h : IntsAt w A n l) (h0 : 0 < (cellsI l).length) : ∃ ad, A = some ad ∧ ∀ j v, (cellsI l)[j]? = some v → w.cell? (ad.add j) = some v := by
  obtain ⟨b, off, rfl, hb, hc⟩ := h.2.2 (by rw [← h.1]; simpa [cellsI] using h0)
  exact ⟨_, rfl, h.srcI.2.2 _ rfl⟩
theorem infoInt : ∃ i : TypeInfo, Try.prog.info? 3 = some i ∧ i.zero = some (.int .i64 0) ∧ i.size = 1 ∧ i.bytes = 8 := by
  have h : (Try.prog.info? 3).map (fun i => (i.zero, i.size, i.bytes)) = some (some (.int .i64 0), 1, 8) := by kernel_rfl
  rcases hi : Try.prog.info? 3 with _ | i
  · rw [hi] at h; cases h
  · rw [hi] at h
    simp only [Option.map_some, Option.some.injEq, Prod.mk.injEq] at h
    exact ⟨i, rfl, h.1, h.2.1, h.2.2⟩
theorem cellsI_append (l m : List Int) : cellsI (l ++ m) = cellsI l ++ cellsI m := by simp [cellsI]
/-- append in a list of operations. -/
theorem app_listI {ops : Array Oper} {rest : List Oper} {o : Oper} {a : Act} {Q : Exit → Act → World → Prop} {w : World} (hgd : o.guard = none) (s x : Operand)
    (ho : o.op = .call { callee := .builtin .append, args := #[s, x], argTypes := #[27, 27] })
    (B : Nat) (v : Value) (l : List Int) (hsv : a.eval s = v) (hown : OwnI B w v l)
    (A : Option Addr) (m c : Nat) (l2 : List Int) (hx : a.eval x = .slice A m c) (hs : SrcS 1 w A m (cellsI l2)) (hlen : l.length + m ≤ 1048576) (hbase : B ≤ w.heap.size)
    (h : ∀ v' w', OwnI B w' v' (l ++ l2) → Below B w w' → wpList Try.prog ops Q rest (a.put o.dst v') w') : wpList Try.prog ops Q (o :: rest) a w := by
  obtain ⟨i, hi, hz, hsz, hby⟩ := infoInt
  refine wpList_append_S w hgd 1 (by decide) s x 27 ho B 3 i _ 8 Try.underlying27 hi hz hsz hby rfl v l.length _ hsv hown A m c _ hx hs (cellsI_one' l2) (by unfold maxLen; omega) (by omega) hbase (fun v' w' h2 h3 h4 => ?_)
  refine h v' w' ?_ ((Below.refl B w).grown h3 hbase (fun g hg => (hown.lt g hg).1))
  have hm : m = l2.length := by have := hs.1; simp only [cellsI, List.length_map] at this; omega
  unfold OwnI
  rw [cellsI_append, List.length_append, ← hm]
  exact h2
/-- append in a region that draws: at one operation. -/
theorem app_operI {o : Oper} {a : Act} {K : Act → World → Prop} {Q : Exit → Act → World → Prop} {w : World} (s x : Operand)
    (ho : o.op = .call { callee := .builtin .append, args := #[s, x], argTypes := #[27, 27] })
    (B : Nat) (v : Value) (l : List Int) (hsv : a.eval s = v) (hown : OwnI B w v l)
    (A : Option Addr) (m c : Nat) (l2 : List Int) (hx : a.eval x = .slice A m c) (hs : SrcS 1 w A m (cellsI l2)) (hlen : l.length + m ≤ 1048576) (hbase : B ≤ w.heap.size)
    (h : ∀ v' w', OwnI B w' v' (l ++ l2) → Below B w w' → K (a.put o.dst v') w') : o.wp Try.prog a w K Q := by
  obtain ⟨i, hi, hz, hsz, hby⟩ := infoInt
  refine wp_append_S w 1 (by decide) s x 27 ho B 3 i _ 8 Try.underlying27 hi hz hsz hby rfl v l.length _ hsv hown A m c _ hx hs (cellsI_one' l2) (by unfold maxLen; omega) (by omega) hbase (fun v' w' h2 h3 h4 => ?_)
  refine h v' w' ?_ ((Below.refl B w).grown h3 hbase (fun g hg => (hown.lt g hg).1))
  have hm : m = l2.length := by have := hs.1; simp only [cellsI, List.length_map] at this; omega
  unfold OwnI
  rw [cellsI_append, List.length_append, ← hm]
  exact h2
theorem splice_all {α : Type} (a b : List α) (h : a.length = b.length) : splice a 0 b = b := by
  simp [splice, ← h]
theorem sizeInt : (Try.prog.info? 3).map (·.size) = some 1 := by kernel_rfl
theorem OwnI.keepSet {B : Nat} {w : World} {v : Value} {l : List Int} (h : OwnI B w v l) (p : Addr) (u : Value) (hp : p.block < B) : OwnI B (w.setCell p u) v l := by
  refine ⟨h.1, ?_⟩
  rcases h.2 with ⟨rfl, e⟩ | ⟨g, cap, cur, rfl, hb, hg, r⟩
  · exact .inl ⟨rfl, e⟩
  · exact .inr ⟨g, cap, cur, rfl, hb, by rw [Below.heap_setCell _ _ _ _ (by omega)]; exact hg, r⟩
theorem OwnI.intsV {B n c : Nat} {w : World} {A : Option Addr} {l : List Int} (h : OwnI B w (.slice A n c) l) : IntsAt w A l.length l := by
  obtain ⟨A', c', e, i, _⟩ := h.ints
  cases e
  exact i
theorem src_oneI {w : World} {g : Nat} {x : Int} (h0 : w.cell? ⟨g, 0, none⟩ = some (.int .i64 x)) : SrcS 1 w (some ⟨g, 0, none⟩) 1 (cellsI [x]) := by
  refine ⟨by simp [cellsI], fun e => by simp at e, fun ad e j u hu => ?_⟩
  obtain rfl : (⟨g, 0, none⟩ : Addr) = ad := by simpa using e
  obtain ⟨hj, rfl⟩ := cellsI_get hu
  obtain rfl : j = 0 := by simpa using hj
  rw [addr_addS]
  exact h0
/-- append at one operation; what else the call owns stays. -/
theorem app_operI2 {o : Oper} {a : Act} {K : Act → World → Prop} {Q : Exit → Act → World → Prop} {w : World} (s x : Operand)
    (ho : o.op = .call { callee := .builtin .append, args := #[s, x], argTypes := #[27, 27] })
    (B : Nat) (v : Value) (l : List Int) (hsv : a.eval s = v) (hown : OwnI B w v l)
    (A : Option Addr) (m c : Nat) (l2 : List Int) (hx : a.eval x = .slice A m c) (hs : SrcS 1 w A m (cellsI l2)) (hlen : l.length + m ≤ 1048576) (hbase : B ≤ w.heap.size)
    (h : ∀ v' w', OwnI B w' v' (l ++ l2) → Below B w w' → (∀ B' v2 l', OwnI B' w v2 l' → (∀ k, v2.ownBlock = some k → v.ownBlock ≠ some k) → OwnI B' w' v2 l') → (v'.ownBlock = v.ownBlock ∨ v'.ownBlock = some w.heap.size) → w.heap.size ≤ w'.heap.size → K (a.put o.dst v') w') : o.wp Try.prog a w K Q := by
  obtain ⟨i, hi, hz, hsz, hby⟩ := infoInt
  refine wp_append_S w 1 (by decide) s x 27 ho B 3 i _ 8 Try.underlying27 hi hz hsz hby rfl v l.length _ hsv hown A m c _ hx hs (cellsI_one' l2) (by unfold maxLen; omega) (by omega) hbase (fun v' w' h2 h3 h4 => ?_)
  refine h v' w' ?_ ((Below.refl B w).grown h3 hbase (fun g hg => (hown.lt g hg).1)) (fun B' v2 l' h5 hne => ?_) h4 h3.size
  · have hm : m = l2.length := by have := hs.1; simp only [cellsI, List.length_map] at this; omega
    unfold OwnI
    rw [cellsI_append, List.length_append, ← hm]
    exact h2
  · refine ⟨h5.1, ?_⟩
    rcases h5.2 with ⟨rfl, e⟩ | ⟨g, cap, cur, rfl, hb, hg, r⟩
    · exact .inl ⟨rfl, e⟩
    · refine .inr ⟨g, cap, cur, rfl, hb, ?_, r⟩
      have hlt : g < w.heap.size := by
        rcases Nat.lt_or_ge g w.heap.size with hl | hge
        · exact hl
        · rw [Array.getElem?_eq_none hge] at hg; cases hg
      exact (h3.block g hlt (fun e => hne g rfl e.symm)).trans hg
theorem OwnI.ltB {B : Nat} {w : World} {v : Value} {l : List Int} (h : OwnI B w v l) (k : Nat) (e : v.ownBlock = some k) : B ≤ k ∧ k < w.heap.size := World.ownsRow.lt h k e
theorem own_emptyI (w : World) : OwnI w.heap.size (w.alloc (.cells #[] 3)) (.slice (some ⟨w.heap.size, 0, none⟩) 0 0) [] := own_emptyS 1 w 3
end Go.Proofs.Ytdhcmnbajkpjiaa
/-
  Slots in memory: a set of places in a map of the call's own; what a call of slots leaves as it was.
-/
namespace Go.Proofs.Ytdhcmnbajkpjiaa
open Go.RowKit
open Go.Maps
set_option linter.unusedVariables false
set_option linter.unusedSimpArgs false
attribute [local go_sem] drewN_alloc drewN_setCell

/-- Only blocks of 'own' have changed among the old ones. -/
structure Chg (own : Nat → Prop) (w w' : World) : Prop where
  os : w'.os = w.os
  tape : w'.tape = w.tape
  output : w'.output = w.output
  size : w.heap.size ≤ w'.heap.size
  block : ∀ k, k < w.heap.size → ¬ own k → w'.heap[k]? = w.heap[k]?
theorem Chg.refl (own : Nat → Prop) (w : World) : Chg own w w := ⟨rfl, rfl, rfl, Nat.le_refl _, fun _ _ _ => rfl⟩
theorem Chg.trans {own : Nat → Prop} {a b c : World} (h : Chg own a b) (k : Chg own b c) : Chg own a c :=
  ⟨k.os.trans h.os, k.tape.trans h.tape, k.output.trans h.output, Nat.le_trans h.size k.size, fun i h1 h2 => (k.block i (Nat.lt_of_lt_of_le h1 h.size) h2).trans (h.block i h1 h2)⟩
theorem Chg.mono {own own' : Nat → Prop} {a b : World} (h : Chg own a b) (hh : ∀ k, k < a.heap.size → own k → own' k) : Chg own' a b :=
  ⟨h.os, h.tape, h.output, h.size, fun i h1 h2 => h.block i h1 (fun h3 => h2 (hh i h1 h3))⟩
theorem Chg.of_below {own : Nat → Prop} {w w' : World} (h : Below w.heap.size w w') : Chg own w w' := ⟨h.os, h.tape, h.output, h.size, fun k hk _ => h.block k hk⟩
theorem Chg.of_off {own : Nat → Prop} {A B : Nat} {w w' : World} (h : Off A B w w') (hA : own A) (hB : own B) : Chg own w w' :=
  ⟨h.os, h.tape, h.output, h.size, fun k hk hn => h.block k (fun e => hn (e ▸ hA)) (fun e => hn (e ▸ hB)) hk⟩
theorem Chg.of_grown {own : Nat → Prop} {w w' : World} {row : Option Nat} (h : w.grownBy w' row) (hr : ∀ k, row = some k → own k) : Chg own w w' :=
  ⟨h.os, h.tape, h.output, h.size, fun k hk hn => h.block k hk (fun e => hn (hr k e.symm))⟩
theorem Chg.set {own : Nat → Prop} {a w : World} (h : Chg own a w) {p : Addr} (hp : own p.block) (u : Value) : Chg own a (w.setCell p u) :=
  h.trans ⟨rfl, rfl, rfl, by simp [World.setCell], fun k h1 h2 => Below.heap_setCell _ _ _ _ (fun e => h2 (e ▸ hp))⟩
theorem Chg.drewN {own : Nat → Prop} {a w : World} (h : Chg own a w) (n : Nat) : Chg own a (w.drewN n) := ⟨h.os, h.tape, h.output, h.size, h.block⟩
theorem Chg.below {own : Nat → Prop} {B : Nat} {a w : World} (h : Chg own a w) (hB : B ≤ a.heap.size) (hh : ∀ k, own k → B ≤ k) : Below B a w :=
  ⟨h.os, h.tape, h.output, h.size, fun k hk => h.block k (by omega) (fun e => by have := hh k e; omega)⟩
theorem RowAt.of_block {w w' : World} {g : Nat} {t : TypeId} {cs : List Value} (h : RowAt w g t cs) (e : w'.heap[g]? = w.heap[g]?) : RowAt w' g t cs := e.trans h
theorem OwnI.of_block {B : Nat} {w w' : World} {v : Value} {l : List Int} (h : OwnI B w v l) (e : ∀ k, v.ownBlock = some k → w'.heap[k]? = w.heap[k]?) : OwnI B w' v l := by
  refine ⟨h.1, ?_⟩
  rcases h.2 with ⟨rfl, e1⟩ | ⟨g, cap, cur, rfl, hb, hgg, r⟩
  · exact .inl ⟨rfl, e1⟩
  · exact .inr ⟨g, cap, cur, rfl, hb, (e g rfl).trans hgg, r⟩

theorem place_keyed : Keyed Try.prog 3 := int_keyed Try.underlying3
theorem place_zero (w : World) : (zeroValue 4).run Try.prog w = .ok (.bool false) w := by kernel_rfl
/-- Block b is a map that says yes of just the places of L. -/
def SetAt (w : World) (b : Nat) (L : List Nat) : Prop :=
  ∃ D : DataW Unit, w.ownsMap Try.prog 3 (plainElem Try.prog 4) b (Maps.size D) D ∧ Maps.size D = L.length ∧ (∀ x : Int, D.atKey (.int .i64 x) (.lit (.bool false)) = .lit (.bool (decide (x ∈ ints L)))) ∧ ∀ x : Int, Maps.has D (.int .i64 x) = decide (x ∈ ints L)
theorem tight {w : World} {b n : Nat} {D : DataW Unit} (h : w.ownsMap Try.prog 3 (plainElem Try.prog 4) b n D) : w.ownsMap Try.prog 3 (plainElem Try.prog 4) b (Maps.size D) D := by
  obtain ⟨es, clock, hb, F, hs, rfl⟩ := h
  exact ⟨es, clock, hb, F, by simp [Maps.size, length_sorted], rfl⟩
theorem SetAt.made (w : World) : SetAt (w.alloc (.map #[] 0)) w.heap.size [] :=
  ⟨.map [], tight (World.ownsMap_made _ _ _ _), rfl, fun x => by simp [DataW.atKey, ints], fun x => by simp [Maps.has, ints]⟩
theorem SetAt.of_block {w w' : World} {b : Nat} {L : List Nat} (h : SetAt w b L) (e : w'.heap[b]? = w.heap[b]?) : SetAt w' b L := by
  obtain ⟨D, ⟨es, clock, hb, r⟩, h2⟩ := h
  exact ⟨D, ⟨es, clock, e.trans hb, r⟩, h2⟩
theorem SetAt.lt {w : World} {b : Nat} {L : List Nat} (h : SetAt w b L) : b < w.heap.size := by
  obtain ⟨D, h1, _⟩ := h
  exact h1.lt
theorem plain_bool_inv {P : Program} {e : TypeId} (he : P.underlying e = some .bool) {v : Value} {z : DataW Unit × List MemPlace} (h : plainElem P e v = some z) : ∃ x, v = .bool x ∧ z = (.lit (.bool x), []) := by
  unfold plainElem at h
  rw [he] at h
  cases v <;> simp at h
  exact ⟨_, rfl, h.symm⟩
def BdI (x : Int) : Prop := -9223372036854775808 ≤ x ∧ x ≤ 9223372036854775807
theorem SetAt.look {w : World} {b : Nat} {L : List Nat} (h : SetAt w b L) (x : Int) (hx : BdI x) :
    (Instr.lookup 164 (.map (some b)) (.int .i64 x) false).run Try.prog w = .ok (.bool (decide (x ∈ ints L))) w := by
  obtain ⟨D, h1, _, h3, _⟩ := h
  obtain ⟨v, ps, hrun, hv⟩ := h1.lookup place_keyed Try.underlying164 (place_zero w) (plainElem_bool Try.underlying4 false) (keyOf_int_mk (P := Try.prog) (k := 3) Try.underlying3 (WalkArith.wf_i64 hx) : keyOf Try.prog 3 (.int .i64 x) = some (.int .i64 x))
  rw [h3] at hv
  obtain ⟨y, rfl, hy⟩ := plain_bool_inv Try.underlying4 hv
  simp at hy
  rw [hrun, hy.1]
theorem in_ints {L : List Nat} {x : Nat} : (x : Int) ∈ ints L ↔ x ∈ L := by
  unfold ints
  rw [List.mem_map]
  constructor
  · rintro ⟨a, ha, e⟩
    obtain rfl : a = x := by omega
    exact ha
  · intro h; exact ⟨x, h, rfl⟩
theorem SetAt.add {w : World} {b : Nat} {L : List Nat} (h : SetAt w b L) (x : Nat) (hx : BdI x) (hn : x ∉ L) (hm : L.length < maxLen) :
    ∃ w', (Instr.mapUpdate 164 (.map (some b)) (.int .i64 (x : Int)) (.bool true)).run Try.prog w = .ok () w' ∧ SetAt w' b (x :: L) ∧ w.grownBy w' (some b) := by
  obtain ⟨D, h1, h2, h3, h4⟩ := h
  have ht := h1.tidy place_keyed
  obtain ⟨w', hrun, ho, hg⟩ := h1.update place_keyed Try.underlying164 (by omega) (keyOf_int_mk (P := Try.prog) (k := 3) Try.underlying3 (WalkArith.wf_i64 hx) : keyOf Try.prog 3 (.int .i64 (x : Int)) = some (.int .i64 (x : Int))) (plainElem_bool Try.underlying4 true)
  have hno : Maps.has D (.int .i64 (x : Int)) = false := by rw [h4]; exact decide_eq_false (fun h => hn (in_ints.1 h))
  refine ⟨w', hrun, ⟨_, tight ho, ?_, fun y => ?_, fun y => ?_⟩, hg⟩
  · rw [size_put ht, hno, h2]; simp
  · by_cases e : y = (x : Int)
    · subst e
      rw [atKey_put_same ht.isMap (by exact trivial)]
      simp [ints]
    · rw [atKey_put_other (by simpa using e), h3]
      have : (y ∈ ints (x :: L)) ↔ y ∈ ints L := by simp [ints, e]
      rw [decide_eq_decide.2 this]
  · by_cases e : y = (x : Int)
    · subst e
      rw [has_put_same ht.isMap (by exact trivial)]
      simp [ints]
    · rw [has_put_other (by simpa using e), h4]
      have : (y ∈ ints (x :: L)) ↔ y ∈ ints L := by simp [ints, e]
      rw [decide_eq_decide.2 this]
theorem SetAt.del {w : World} {b : Nat} {L : List Nat} (h : SetAt w b L) (x : Nat) (hx : BdI x) (hn : x ∈ L) (hL : L.Nodup) (ty : TypeId) :
    ∃ w', (Builtin.delete_ #[164, 3] ty #[.map (some b), .int .i64 (x : Int)]).run Try.prog w = .ok (.tuple #[]) w' ∧ SetAt w' b (L.erase x) ∧ w.grownBy w' (some b) := by
  obtain ⟨D, h1, h2, h3, h4⟩ := h
  have ht := h1.tidy place_keyed
  obtain ⟨w', hrun, ho, hg⟩ := h1.drop place_keyed Try.underlying164 (keyOf_int_mk (P := Try.prog) (k := 3) Try.underlying3 (WalkArith.wf_i64 hx) : keyOf Try.prog 3 (.int .i64 (x : Int)) = some (.int .i64 (x : Int))) ty
  have hyes : Maps.has D (.int .i64 (x : Int)) = true := by rw [h4]; exact decide_eq_true (in_ints.2 hn)
  have key : ∀ y : Int, y ≠ (x : Int) → (y ∈ ints (L.erase x) ↔ y ∈ ints L) := fun y hy => by
    unfold ints
    rw [List.mem_map, List.mem_map]
    constructor
    · rintro ⟨a, ha, rfl⟩; exact ⟨a, List.mem_of_mem_erase ha, rfl⟩
    · rintro ⟨a, ha, rfl⟩; exact ⟨a, (List.mem_erase_of_ne (fun e => hy (by rw [e]))).2 ha, rfl⟩
  have hself : ¬ ((x : Int) ∈ ints (L.erase x)) := fun h => ((hL.mem_erase_iff).1 (in_ints.1 h)).1 rfl
  refine ⟨w', hrun, ⟨_, tight ho, ?_, fun y => ?_, fun y => ?_⟩, hg.grown⟩
  · have := size_del (k := .int .i64 (x : Int)) ht
    rw [hyes, if_pos rfl] at this
    rw [List.length_erase_of_mem hn]
    omega
  · by_cases e : y = (x : Int)
    · subst e
      rw [atKey_del_same, decide_eq_false hself]
    · rw [atKey_del_other (by simpa using e), h3, decide_eq_decide.2 (key y e)]
  · by_cases e : y = (x : Int)
    · subst e
      rw [has_del_same, decide_eq_false hself]
    · rw [has_del_other (by simpa using e), h4, decide_eq_decide.2 (key y e)]
theorem SetAt.len {w : World} {b : Nat} {L : List Nat} (h : SetAt w b L) (ty : TypeId) : (Builtin.len_ #[164] ty #[.map (some b)]).run Try.prog w = .ok (.int .i64 (L.length : Int)) w := by
  obtain ⟨D, h1, h2, _⟩ := h
  rw [h1.len Try.underlying164 ty, h2]
theorem place_makeMap (w : World) : (Instr.makeMap 164 none).run Try.prog w = .ok (.map (some w.heap.size)) (w.alloc (.map #[] 0)) := by
  simp [Instr.makeMap, run_underlying Try.underlying164, asInt, asIntOf, Result.andThen]
/-- The first ones of a slice of one's own. -/
theorem OwnI.cut {B : Nat} {w : World} {A : Option Addr} {n c : Nat} {l : List Int} (h : OwnI B w (.slice A n c) l) (k : Nat) (hk : k ≤ l.length) (h0 : 0 < l.length) : OwnI B w (.slice A k c) (l.take k) := by
  rcases h.2 with ⟨e, e1⟩ | ⟨g, cap, cur, e, hb, hgg, hn, hcm, hcs, hx⟩
  · omega
  · cases e
    have e2 : (l.take k).length = k := by rw [List.length_take]; omega
    refine ⟨by unfold cellsI; simp, .inr ⟨g, c, cur, by rw [e2], hb, hgg, by rw [e2]; omega, hcm, hcs, ?_⟩⟩
    unfold cellsI at hx ⊢
    rw [e2, Nat.mul_one]
    rw [Nat.mul_one] at hx
    rw [List.map_take, ← hx, List.take_take]
    congr 1
    omega
end Go.Proofs.Ytdhcmnbajkpjiaa
/-
  A map from ints to ints of the call's own: look, enter (as one of several assignments), delete.
-/
namespace Go.Proofs.Ytdhcmnbajkpjiaa
open Go.RowKit
open Go.Maps
set_option linter.unusedVariables false
set_option linter.unusedSimpArgs false
attribute [local go_sem] drewN_alloc drewN_setCell

section
open Go.WideElems Go.MapKept Go.ChangeMaps Go.ChangeShapes Go.WideShapes
variable {H : Type} {P : Program} {w : World} {t k e : TypeId} {R : Value → Option (DataW H × List MemPlace)} {b : Nat} {es : Array MapEntry} {clock : Nat}
theorem entry_keyed (K : Keyed P k) (ht : P.underlying t = some (.map k e)) {z : Value} (hz : ∀ u : World, (zeroValue e).run P u = .ok z u) (hb : w.heap[b]? = some (.map es clock)) (F : Fit P k R es clock)
    {key : Value} {kl : Lit} (hkey : keyOf P k key = some kl) :
    ∃ (v0 : Value) (st : Nat) (es1 : Array MapEntry) (clock1 : Nat), (Instr.mapEntry t (.map (some b)) key).run P w = .ok (.tuple #[v0, goInt st]) (setBlock w b (.map es1 clock1)) ∧
      ∀ (w2 : World) (val : Value), w2.heap[b]? = some (.map es1 clock1) → ∃ es' clock', (Instr.entryStore t (.map (some b)) (goInt st) val).run P w2 = .ok () (setBlock w2 b (.map es' clock')) ∧
        (Instr.mapUpdate t (.map (some b)) key val).run P w = .ok () (setBlock w b (.map es' clock')) := by
  obtain ⟨s1, s2, _⟩ := F.stamped
  rcases K.find w hkey es.toList F.keys with ⟨h1, h2⟩ | ⟨j, e0, h1, h2, h3⟩
  · refine ⟨z, clock, es.push ⟨key, z, clock⟩, clock + 1, ?_, fun w2 val hw2 => ⟨es.push ⟨key, val, clock⟩, clock + 1, ?_, ?_⟩⟩
    · simp [Instr.mapEntry, run_underlying ht, MapKept.run_getObj_map hb, K.check w false hkey, h1, hz, MapKept.run_setObj_map _ hb, Result.andThen, setBlock]
    · have hidx : (es.push ⟨key, z, clock⟩).findIdx? (fun e => ((e.born : Nat) : Int) == ((clock : Nat) : Int)) = some es.size := by
        rw [findIdx_arr]
        have := findIdx_born (l := (es.push ⟨key, z, clock⟩).toList) (j := es.size) (e0 := ⟨key, z, clock⟩) (by
          simp only [Array.toList_push, List.map_append, List.map_cons, List.map_nil]
          refine List.nodup_append.2 ⟨s2, by simp, fun a ha c hc e1 => ?_⟩
          simp only [List.mem_singleton] at hc
          obtain ⟨x, hx, rfl⟩ := List.mem_map.1 ha
          have := s1 x hx
          omega) (by simp)
        exact this
      have hmod : (es.push ⟨key, z, clock⟩).modify es.size (fun e => { e with val := val }) = es.push ⟨key, val, clock⟩ := by
        apply Array.ext'
        rw [Array.toList_modify, Array.toList_push, Array.toList_push, ← Array.length_toList, modify_last]
      simp [Instr.entryStore, MapKept.run_getObj_map hw2, asInt, asIntOf, goInt, hidx, hmod, MapKept.run_setObj_map _ hw2, Result.andThen, setBlock]
    · simp [Instr.mapUpdate, run_underlying ht, MapKept.run_getObj_map hb, K.check w false hkey, h1, MapKept.run_setObj_map _ hb, Result.andThen, setBlock]
  · have hj : es[j]? = some e0 := by simpa using h2
    have hsame : es.modify j (fun e => { e with key := key }) = es := by
      apply Array.ext'
      rw [Array.toList_modify, modify_eq_set _ _ _ _ h2]
      have : ({ e0 with key := key } : MapEntry) = e0 := by rw [← h3]
      rw [this]
      exact set_self _ _ _ h2
    refine ⟨e0.val, e0.born, es, clock, ?_, fun w2 val hw2 => ⟨es.modify j (fun e' => { e' with key := key, val := val }), clock, ?_, ?_⟩⟩
    · simp [Instr.mapEntry, run_underlying ht, MapKept.run_getObj_map hb, K.check w false hkey, h1, hj, h3, K.stays w hkey, hsame, MapKept.run_setObj_map _ hb, Result.andThen, setBlock]
    · have hidx : es.findIdx? (fun e => ((e.born : Nat) : Int) == ((e0.born : Nat) : Int)) = some j := by
        rw [findIdx_arr]
        exact findIdx_born s2 h2
      have hmod : es.modify j (fun e => { e with val := val }) = es.modify j (fun e' => { e' with key := key, val := val }) := by
        apply Array.ext'
        rw [Array.toList_modify, Array.toList_modify, modify_eq_set _ _ _ _ h2, modify_eq_set _ _ _ _ h2, ← h3]
      simp [Instr.entryStore, MapKept.run_getObj_map hw2, asInt, asIntOf, goInt, hidx, hmod, MapKept.run_setObj_map _ hw2, Result.andThen, setBlock]
    · simp [Instr.mapUpdate, run_underlying ht, MapKept.run_getObj_map hb, K.check w false hkey, h1, hj, h3, K.stays w hkey, MapKept.run_setObj_map _ hb, Result.andThen, setBlock]
end
section
variable {P : Program} {o : Oper} {a : Act} {K : Act → World → Prop} {Q : Exit → Act → World → Prop} {w w' : World} {t : TypeId} {b : Nat}
theorem wp_mapEntry (m x : Operand) (ho : o.op = .mapEntry t m x) {key v : Value} (hm : a.eval m = .map (some b)) (hx : a.eval x = key) (hrun : (Instr.mapEntry t (.map (some b)) key).run P w = .ok v w') (h : K (a.put o.dst v) w') : o.wp P a w K Q := by
  unfold Oper.wp execOp
  simp only [ho, hm, hx, Sem.run_bind, Sem.run_pure, Result.andThen_ok, hrun]
  exact h
theorem wp_entryStore (m s x : Operand) (ho : o.op = .entryStore t m s x) {st val : Value} (hm : a.eval m = .map (some b)) (hs : a.eval s = st) (hx : a.eval x = val) (hrun : (Instr.entryStore t (.map (some b)) st val).run P w = .ok () w') (h : K (a.put o.dst undef) w') : o.wp P a w K Q := by
  unfold Oper.wp execOp
  simp only [ho, hm, hs, hx, Sem.run_bind, Sem.run_pure, Result.andThen_ok, hrun]
  exact h
end
theorem tightI {w : World} {b n : Nat} {D : DataW Unit} (h : w.ownsMap Try.prog 3 (plainElem Try.prog 3) b n D) : w.ownsMap Try.prog 3 (plainElem Try.prog 3) b (Maps.size D) D := by
  obtain ⟨es, clock, hb, F, hs, rfl⟩ := h
  exact ⟨es, clock, hb, F, by simp [Maps.size, length_sorted], rfl⟩
theorem int_zero (w : World) : (zeroValue 3).run Try.prog w = .ok (.int .i64 0) w := by kernel_rfl
/-- Block b is a map that says what f says, of at most k entries. -/
def MapAt (w : World) (b k : Nat) (f : Int → Option Int) : Prop :=
  ∃ D : DataW Unit, w.ownsMap Try.prog 3 (plainElem Try.prog 3) b (Maps.size D) D ∧ Maps.size D ≤ k ∧ (∀ x : Int, D.atKey (.int .i64 x) (.lit (.int .i64 0)) = .lit (.int .i64 ((f x).getD 0))) ∧ ∀ x : Int, Maps.has D (.int .i64 x) = (f x).isSome
theorem MapAt.of_block {w w' : World} {b k : Nat} {f : Int → Option Int} (h : MapAt w b k f) (e : w'.heap[b]? = w.heap[b]?) : MapAt w' b k f := by
  obtain ⟨D, ⟨es, clock, hb, r⟩, h2⟩ := h
  exact ⟨D, ⟨es, clock, e.trans hb, r⟩, h2⟩
theorem MapAt.lt {w : World} {b k : Nat} {f : Int → Option Int} (h : MapAt w b k f) : b < w.heap.size := by
  obtain ⟨D, h1, _⟩ := h
  exact h1.lt
theorem MapAt.made (w : World) : MapAt (w.alloc (.map #[] 0)) w.heap.size 0 (fun _ => none) :=
  ⟨.map [], tightI (World.ownsMap_made _ _ _ _), Nat.le_refl _, fun x => by simp [DataW.atKey], fun x => by simp [Maps.has]⟩
theorem keyI (x : Int) (hx : BdI x) : keyOf Try.prog 3 (.int .i64 x) = some (.int .i64 x) := keyOf_int_mk (P := Try.prog) (k := 3) Try.underlying3 (WalkArith.wf_i64 hx)
theorem MapAt.look {w : World} {b k : Nat} {f : Int → Option Int} (h : MapAt w b k f) (x : Int) (hx : BdI x) :
    (Instr.lookup 93 (.map (some b)) (.int .i64 x) true).run Try.prog w = .ok (.tuple #[.int .i64 ((f x).getD 0), .bool (f x).isSome]) w := by
  obtain ⟨D, h1, _, h3, h4⟩ := h
  obtain ⟨v, ps, hrun, hv⟩ := h1.look_ok place_keyed Try.underlying93 (int_zero w) (plainElem_int (q := .i64) Try.underlying3 (by decide)) (keyI x hx)
  rw [h3] at hv
  obtain ⟨c, rfl, hc, hwc⟩ := plainElem_int_inv Try.underlying3 hv
  simp at hc
  rw [hrun, h4, hc.1]
open Go.ChangeMaps in
theorem MapAt.enter {w : World} {b k : Nat} {f : Int → Option Int} (h : MapAt w b k f) (x y : Int) (hx : BdI x) (hy : BdI y) (hk : k < maxLen) :
    ∃ v0 st w1, (Instr.mapEntry 93 (.map (some b)) (.int .i64 x)).run Try.prog w = .ok (.tuple #[v0, st]) w1 ∧ w.grownBy w1 (some b) ∧
      ∀ w2 : World, w2.heap[b]? = w1.heap[b]? → ∃ w3, (Instr.entryStore 93 (.map (some b)) st (.int .i64 y)).run Try.prog w2 = .ok () w3 ∧ w2.grownBy w3 (some b) ∧ MapAt w3 b (k + 1) (fun z => if z = x then some y else f z) := by
  obtain ⟨D, h1, h2, h3, h4⟩ := h
  have ht := h1.tidy place_keyed
  obtain ⟨w', hup, ho, hg⟩ := h1.update place_keyed Try.underlying93 (by omega) (keyI x hx) (plainElem_int (q := .i64) Try.underlying3 (WalkArith.wf_i64 hy))
  obtain ⟨es, clock, hb, F, hs, hD⟩ := h1
  obtain ⟨v0, st, es1, c1, hrun, hst⟩ := entry_keyed place_keyed Try.underlying93 int_zero hb F (keyI x hx)
  have blk := fun (u : World) (es0 : Array MapEntry) (c0 : Nat) (ob' : Obj) (hu : u.heap[b]? = some (.map es0 c0)) => (⟨rfl, rfl, rfl, by simp [setBlock], fun i _ hi => heap_setBlock_other hu _ (fun e => hi (by rw [e]))⟩ : u.grownBy (setBlock u b ob') (some b))
  refine ⟨v0, goInt st, _, hrun, blk w _ _ _ hb, fun w2 hw2 => ?_⟩
  rw [heap_setBlock_same hb] at hw2
  obtain ⟨es', c', hst2, hup2⟩ := hst w2 (.int .i64 y) hw2
  refine ⟨_, hst2, blk w2 _ _ _ hw2, ?_⟩
  have ew : w' = setBlock w b (.map es' c') := by
    rw [hup] at hup2
    injection hup2
  have hm : MapAt w' b (k + 1) (fun z => if z = x then some y else f z) := by
    refine ⟨_, tightI ho, ?_, fun z => ?_, fun z => ?_⟩
    · have e1 : Maps.size (D.put (.int .i64 x) (.lit (.int .i64 y))) = if Maps.has D (.int .i64 x) = true then Maps.size D else Maps.size D + 1 := size_put ht _
      rw [e1]
      split <;> omega
    · by_cases e : z = x
      · subst e
        rw [atKey_put_same ht.isMap (by exact trivial)]
        simp
      · rw [atKey_put_other (by simpa using e), h3]; simp [e]
    · by_cases e : z = x
      · subst e
        rw [has_put_same ht.isMap (by exact trivial)]
        simp
      · rw [has_put_other (by simpa using e), h4]; simp [e]
  refine hm.of_block ?_
  rw [ew, heap_setBlock_same hb, heap_setBlock_same hw2]
theorem MapAt.del {w : World} {b k : Nat} {f : Int → Option Int} (h : MapAt w b k f) (x : Int) (hx : BdI x) (hf : (f x).isSome = true) (ty : TypeId) :
    ∃ w', (Builtin.delete_ #[93, 3] ty #[.map (some b), .int .i64 x]).run Try.prog w = .ok (.tuple #[]) w' ∧ MapAt w' b (k - 1) (fun z => if z = x then none else f z) ∧ w.grownBy w' (some b) := by
  obtain ⟨D, h1, h2, h3, h4⟩ := h
  have ht := h1.tidy place_keyed
  obtain ⟨w', hrun, ho, hg⟩ := h1.drop place_keyed Try.underlying93 (keyI x hx) ty
  refine ⟨w', hrun, ⟨_, tightI ho, ?_, fun y => ?_, fun y => ?_⟩, hg.grown⟩
  · have := size_del (k := .int .i64 x) ht
    rw [h4, hf, if_pos rfl] at this
    omega
  · by_cases e : y = x
    · subst e
      rw [atKey_del_same]; simp
    · rw [atKey_del_other (by simpa using e), h3]; simp [e]
  · by_cases e : y = x
    · subst e
      rw [has_del_same]; simp
    · rw [has_del_other (by simpa using e), h4]; simp [e]
end Go.Proofs.Ytdhcmnbajkpjiaa
/-
  Layer 40 (region): a map from ints to regions (values of any kind) of the call's own: look, update, delete.
-/
namespace Go.Proofs.Ytdhcmnbajkpjiaa
open Go.RowKit
open Go.Maps
set_option linter.unusedVariables false
set_option linter.unusedSimpArgs false
attribute [local go_sem] drewN_alloc drewN_setCell

/-- Every value is read as itself. -/
def heldElem (v : Value) : Option (DataW Value × List MemPlace) := some (.held v, [])
/-- A region that is nothing. -/
def zReg : Value := .agg #[.int .i64 0, .slice none 0 0, .int .i64 0]
theorem zReg_run (w : World) : (zeroValue 157).run Try.prog w = .ok zReg w := by kernel_rfl
theorem tightR {w : World} {b n : Nat} {D : DataW Value} (h : w.ownsMap Try.prog 3 heldElem b n D) : w.ownsMap Try.prog 3 heldElem b (Maps.size D) D := by
  obtain ⟨es, clock, hb, F, hs, rfl⟩ := h
  exact ⟨es, clock, hb, F, by simp [Maps.size, length_sorted], rfl⟩
/-- Block b is a map that says what f says, of at most k entries. -/
def RMapAt (w : World) (b k : Nat) (f : Int → Option Value) : Prop :=
  ∃ D : DataW Value, w.ownsMap Try.prog 3 heldElem b (Maps.size D) D ∧ Maps.size D ≤ k ∧ (∀ x : Int, D.atKey (.int .i64 x) (.held zReg) = .held ((f x).getD zReg)) ∧ ∀ x : Int, Maps.has D (.int .i64 x) = (f x).isSome
theorem RMapAt.of_block {w w' : World} {b k : Nat} {f : Int → Option Value} (h : RMapAt w b k f) (e : w'.heap[b]? = w.heap[b]?) : RMapAt w' b k f := by
  obtain ⟨D, ⟨es, clock, hb, r⟩, h2⟩ := h
  exact ⟨D, ⟨es, clock, e.trans hb, r⟩, h2⟩
theorem RMapAt.lt {w : World} {b k : Nat} {f : Int → Option Value} (h : RMapAt w b k f) : b < w.heap.size := by
  obtain ⟨D, h1, _⟩ := h
  exact h1.lt
theorem RMapAt.made (w : World) : RMapAt (w.alloc (.map #[] 0)) w.heap.size 0 (fun _ => none) :=
  ⟨.map [], tightR (World.ownsMap_made _ _ _ _), Nat.le_refl _, fun x => by simp [DataW.atKey], fun x => by simp [Maps.has]⟩
theorem RMapAt.look {w : World} {b k : Nat} {f : Int → Option Value} (h : RMapAt w b k f) (x : Int) (hx : BdI x) :
    (Instr.lookup 118 (.map (some b)) (.int .i64 x) true).run Try.prog w = .ok (.tuple #[(f x).getD zReg, .bool (f x).isSome]) w := by
  obtain ⟨D, h1, _, h3, h4⟩ := h
  obtain ⟨v, ps, hrun, hv⟩ := h1.look_ok place_keyed Try.underlying118 (zReg_run w) (rfl : heldElem zReg = some (.held zReg, [])) (keyI x hx)
  rw [h3] at hv
  have e : v = (f x).getD zReg := by
    have := congrArg Prod.fst (Option.some.inj hv)
    exact (DataW.held.inj this)
  rw [hrun, h4, e]
theorem RMapAt.look0 {w : World} {b k : Nat} {f : Int → Option Value} (h : RMapAt w b k f) (x : Int) (hx : BdI x) :
    (Instr.lookup 118 (.map (some b)) (.int .i64 x) false).run Try.prog w = .ok ((f x).getD zReg) w := by
  obtain ⟨D, h1, _, h3, h4⟩ := h
  obtain ⟨v, ps, hrun, hv⟩ := h1.lookup place_keyed Try.underlying118 (zReg_run w) (rfl : heldElem zReg = some (.held zReg, [])) (keyI x hx)
  rw [h3] at hv
  have e : v = (f x).getD zReg := by
    have := congrArg Prod.fst (Option.some.inj hv)
    exact (DataW.held.inj this)
  rw [hrun, e]
open Go.ChangeMaps in
theorem RMapAt.upd {w : World} {b k : Nat} {f : Int → Option Value} (h : RMapAt w b k f) (x : Int) (v : Value) (hx : BdI x) (hk : k < maxLen) :
    ∃ w', (Instr.mapUpdate 118 (.map (some b)) (.int .i64 x) v).run Try.prog w = .ok () w' ∧ RMapAt w' b (k + 1) (fun z => if z = x then some v else f z) ∧ w.grownBy w' (some b) := by
  obtain ⟨D, h1, h2, h3, h4⟩ := h
  have ht := h1.tidy place_keyed
  obtain ⟨w', hup, ho, hg⟩ := h1.update place_keyed Try.underlying118 (by omega) (keyI x hx) (rfl : heldElem v = some (.held v, []))
  refine ⟨w', hup, ⟨_, tightR ho, ?_, fun z => ?_, fun z => ?_⟩, hg⟩
  · have e1 : Maps.size (D.put (.int .i64 x) (.held v)) = if Maps.has D (.int .i64 x) = true then Maps.size D else Maps.size D + 1 := size_put ht _
    rw [e1]
    split <;> omega
  · by_cases e : z = x
    · subst e
      rw [atKey_put_same ht.isMap (by exact trivial)]
      simp
    · rw [atKey_put_other (by simpa using e), h3]; simp [e]
  · by_cases e : z = x
    · subst e
      rw [has_put_same ht.isMap (by exact trivial)]
      simp
    · rw [has_put_other (by simpa using e), h4]; simp [e]
theorem RMapAt.del {w : World} {b k : Nat} {f : Int → Option Value} (h : RMapAt w b k f) (x : Int) (hx : BdI x) (ty : TypeId) :
    ∃ w', (Builtin.delete_ #[118, 3] ty #[.map (some b), .int .i64 x]).run Try.prog w = .ok (.tuple #[]) w' ∧ RMapAt w' b k (fun z => if z = x then none else f z) ∧ w.grownBy w' (some b) := by
  obtain ⟨D, h1, h2, h3, h4⟩ := h
  have ht := h1.tidy place_keyed
  obtain ⟨w', hrun, ho, hg⟩ := h1.drop place_keyed Try.underlying118 (keyI x hx) ty
  refine ⟨w', hrun, ⟨_, tightR ho, ?_, fun y => ?_, fun y => ?_⟩, hg.grown⟩
  · have := size_del (k := .int .i64 x) ht
    split at this <;> omega
  · by_cases e : y = x
    · subst e
      rw [atKey_del_same]; simp
    · rw [atKey_del_other (by simpa using e), h3]; simp [e]
  · by_cases e : y = x
    · subst e
      rw [has_del_same]; simp
    · rw [has_del_other (by simpa using e), h4]; simp [e]
end Go.Proofs.Ytdhcmnbajkpjiaa
/-
  Slots: the walks of pick, Open, Close, Right, Gen, Len, New.
-/
namespace Go.Proofs.Ytdhcmnbajkpjiaa
open Go.RowKit
open Go.Maps
set_option linter.unusedVariables false
set_option linter.unusedSimpArgs false
attribute [local go_sem] drewN_alloc drewN_setCell

structure SlotsAt (B : Nat) (w : World) (Sb Gb Mb n : Nat) (v : Value) (g : List Int) (O cl : List Nat) (fr : Nat) : Prop where
  row : RowAt w Sb 166 [.slice (some ⟨Gb, 0, none⟩) n n, .map (some Mb), v, .int .i64 (fr : Int)]
  gens : RowAt w Gb 3 (g.map (Value.int .i64))
  glen : g.length = n
  set : SetAt w Mb O
  own : OwnI B w v (ints cl)
  ne1 : Sb ≠ Gb
  ne2 : Sb ≠ Mb
  ne3 : Gb ≠ Mb
  lt1 : Sb < B
  lt2 : Gb < B
  lt3 : Mb < B
structure SlInv (n : Nat) (O cl : List Nat) (fr : Nat) : Prop where
  o1 : O.Nodup
  c1 : cl.Nodup
  o2 : ∀ x ∈ O, x < fr
  c2 : ∀ x ∈ cl, x < fr ∧ x ∉ O
  f1 : fr ≤ n
  n1 : n ≤ 1048576
theorem nodup_lt : ∀ (n : Nat) (d : List Nat), d.Nodup → (∀ x ∈ d, x < n) → d.length ≤ n
  | 0, d, _, h => by
    cases d with
    | nil => simp
    | cons a t => exact absurd (h a (by simp)) (by omega)
  | n + 1, d, hd, h => by
    by_cases hm : n ∈ d
    · have h1 := nodup_lt n (d.erase n) (hd.erase n) (fun x hx => by
        have := (hd.mem_erase_iff).1 hx
        have := h x this.2
        omega)
      rw [List.length_erase_of_mem hm] at h1
      omega
    · have := nodup_lt n d hd (fun x hx => by
        have h1 := h x hx
        have h2 : x ≠ n := fun e => hm (e ▸ hx)
        omega)
      omega
theorem SlInv.cl_len {n : Nat} {O cl : List Nat} {fr : Nat} (h : SlInv n O cl fr) : cl.length ≤ n := Nat.le_trans (nodup_lt fr cl h.c1 (fun x hx => (h.c2 x hx).1)) h.f1
theorem SlInv.o_len {n : Nat} {O cl : List Nat} {fr : Nat} (h : SlInv n O cl fr) : O.length ≤ n := Nat.le_trans (nodup_lt fr O h.o1 h.o2) h.f1
theorem SlotsAt.of_blocks {B : Nat} {w w' : World} {Sb Gb Mb n : Nat} {v : Value} {g : List Int} {O cl : List Nat} {fr : Nat} (h : SlotsAt B w Sb Gb Mb n v g O cl fr)
    (e : ∀ k, k < w.heap.size → (k = Sb ∨ k = Gb ∨ k = Mb ∨ v.ownBlock = some k) → w'.heap[k]? = w.heap[k]?) : SlotsAt B w' Sb Gb Mb n v g O cl fr :=
  ⟨h.row.of_block (e _ h.row.lt (.inl rfl)), h.gens.of_block (e _ h.gens.lt (.inr (.inl rfl))), h.glen, h.set.of_block (e _ h.set.lt (.inr (.inr (.inl rfl)))), h.own.of_block (fun k hk => e k (World.ownsRow.lt h.own k hk).2 (.inr (.inr (.inr hk)))), h.ne1, h.ne2, h.ne3, h.lt1, h.lt2, h.lt3⟩

variable {B : Nat} {w : World} {Sb Gb Mb n : Nat} {v : Value} {g : List Int} {O cl : List Nat} {fr : Nat}
theorem SlotsAt.c0 (h : SlotsAt B w Sb Gb Mb n v g O cl fr) : w.cell? ⟨Sb, 0, none⟩ = some (.slice (some ⟨Gb, 0, none⟩) n n) := by rw [h.row.cell]; rfl
theorem SlotsAt.c1 (h : SlotsAt B w Sb Gb Mb n v g O cl fr) : w.cell? ⟨Sb, 1, none⟩ = some (.map (some Mb)) := by rw [h.row.cell]; rfl
theorem SlotsAt.c2 (h : SlotsAt B w Sb Gb Mb n v g O cl fr) : w.cell? ⟨Sb, 2, none⟩ = some v := by rw [h.row.cell]; rfl
theorem SlotsAt.c3 (h : SlotsAt B w Sb Gb Mb n v g O cl fr) : w.cell? ⟨Sb, 3, none⟩ = some (.int .i64 (fr : Int)) := by rw [h.row.cell]; rfl
theorem SlotsAt.gen (h : SlotsAt B w Sb Gb Mb n v g O cl fr) {i : Nat} (hi : i < n) : w.cell? ⟨Gb, i, none⟩ = some (.int .i64 (g.getD i 0)) := by
  have := h.glen
  rw [h.gens.cell]
  simp [List.getD, show i < g.length by omega]

def SPick (B : Nat) (Sb Gb Mb n : Nat) (v : Value) (g : List Int) (O : List Nat) (p : Nat) (ok : Bool) (cl' : List Nat) (fr' : Nat) (w : World) (e : Ending) (w' : World) : Prop :=
  e = .returned (.tuple #[.int .i64 (p : Int), .bool ok]) ∧ Chg (fun k => k = Sb) w w' ∧ ∃ v', SlotsAt B w' Sb Gb Mb n v' g O cl' fr' ∧ v'.ownBlock = v.ownBlock
set_option maxHeartbeats 2000000 in
theorem pick_closed (k : Nat) (h : SlotsAt B w Sb Gb Mb n v g O cl fr) (hk : cl.length = k + 1) (hb : k ≤ 1048576) :
    Calls Try.prog 152 #[.pointer (some ⟨Sb, 0, none⟩)] w (SPick B Sb Gb Mb n v g O (cl.getD k 0) true (cl.take k) fr w) := by
  obtain ⟨A, c, rfl, hi, hc, hcb⟩ := h.own.ints
  rw [ints_len, hk] at hi hc
  obtain ⟨b, off, e, hbl, hcs⟩ := hi.2.2 (by omega)
  have x0 := hcs k (by omega)
  have ex : (ints cl).getD k 0 = ((cl.getD k 0 : Nat) : Int) := by simp [ints, List.getD, show k < cl.length by omega]
  rw [ex] at x0
  have hs0 : off = 0 ∧ b ≥ B := by
    rcases h.own.2 with ⟨e1, _⟩ | ⟨g1, cap, cur, e1, hb1, _⟩
    · rw [e] at e1; cases e1
    · rw [e] at e1; cases e1; exact ⟨rfl, hb1⟩
  subst e
  obtain ⟨rfl, hbB⟩ := hs0
  rw [Nat.zero_add] at x0
  have c2 := h.c2
  rw [ints_len, hk] at c2
  have f2 := h.row.frozen 2
  have hcut : OwnI B w (.slice (some ⟨b, 0, none⟩) k c) (ints (cl.take k)) := by
    have := OwnI.cut (k := k) h.own (by rw [ints_len]; omega) (by rw [ints_len]; omega)
    have e2 : (ints cl).take k = ints (cl.take k) := by simp [ints]
    rwa [e2] at this
  have HF : Hid (SPick B Sb Gb Mb n (.slice (some ⟨b, 0, none⟩) (k + 1) c) g O (cl.getD k 0) true (cl.take k) fr w (.returned (.tuple #[.int .i64 ((cl.getD k 0 : Nat) : Int), .bool true])) (w.setCell ⟨Sb, 2, none⟩ (.slice (some ⟨b, 0, none⟩) k c))) := Lib.hid ⟨rfl, (Chg.refl (fun k => k = Sb) w).set (by exact rfl) _, .slice (some ⟨b, 0, none⟩) k c, by
    have hne : ∀ j, j ≠ Sb → (w.setCell ⟨Sb, 2, none⟩ (.slice (some ⟨b, 0, none⟩) k c)).heap[j]? = w.heap[j]? := fun j hj => Below.heap_setCell _ _ _ _ hj
    have hr := h.row.set_ 2 (.slice (some ⟨b, 0, none⟩) k c)
    exact ⟨hr, h.gens.of_block (hne _ h.ne1.symm), h.glen, h.set.of_block (hne _ h.ne2.symm), hcut.of_block (fun j hj => hne j (by have := (World.ownsRow.lt hcut j hj).1; have := h.lt1; omega)), h.ne1, h.ne2, h.ne3, h.lt1, h.lt2, h.lt3⟩, by simp [Value.ownBlock]⟩
  have e3 : (ints cl).length = k + 1 := by rw [ints_len, hk]
  rw [e3] at h ⊢
  generalize cl.getD k 0 = x at *
  have k1 : ((k + 1 : Nat) : Int) = (k : Int) + 1 := by omega
  have k0 : (0 : Int) < (k : Int) + 1 := by omega
  have g0 : decide ((0 : Int) < (k : Int) + 1) = true := decide_eq_true k0
  have wk : IntKind.i64.wrap ((k : Int) + 1 - 1) = (k : Int) := by rw [IntKind.wrap_i64]; omega
  have wk2 : IntKind.i64.wrap (k : Int) = (k : Int) := by rw [IntKind.wrap_i64]; omega
  have j0 : (0 : Int) ≤ (k : Int) := by omega
  have j1 : (k : Int) < (k : Int) + 1 := by omega
  have j2 : (k : Int) ≤ (c : Int) := by omega
  have j3 : k ≤ c := by omega
  clear h hi hcs hcut hk ex e3
  go_enter Try.func152, Try.ntmps152
  go_wp2_with fail
  exact bodyPost_ret (v := .tuple #[.int .i64 (x : Int), .bool true]) (by simp [results, Try.results152, go_sem]) rfl HF.out

/-- A store into the slots' own cells. -/
theorem SlotsAt.set3 (h : SlotsAt B w Sb Gb Mb n v g O cl fr) (x : Nat) : SlotsAt B (w.setCell ⟨Sb, 3, none⟩ (.int .i64 (x : Int))) Sb Gb Mb n v g O cl x := by
  have hne : ∀ j, j ≠ Sb → (w.setCell ⟨Sb, 3, none⟩ (.int .i64 (x : Int))).heap[j]? = w.heap[j]? := fun j hj => Below.heap_setCell _ _ _ _ hj
  have hr := h.row.set_ 3 (.int .i64 (x : Int))
  exact ⟨hr, h.gens.of_block (hne _ h.ne1.symm), h.glen, h.set.of_block (hne _ h.ne2.symm), h.own.of_block (fun j hj => hne j (by have := (World.ownsRow.lt h.own j hj).1; have := h.lt1; omega)), h.ne1, h.ne2, h.ne3, h.lt1, h.lt2, h.lt3⟩
set_option maxHeartbeats 2000000 in
theorem pick_fresh (h : SlotsAt B w Sb Gb Mb n v g O cl fr) (hk : cl = []) (hf : fr < n) (hn : n ≤ 1048576) :
    Calls Try.prog 152 #[.pointer (some ⟨Sb, 0, none⟩)] w (SPick B Sb Gb Mb n v g O fr true cl (fr + 1) w) := by
  obtain ⟨A, c, e, hi, hc, hcb⟩ := h.own.ints
  have e0 : (ints cl).length = 0 := by rw [hk]; rfl
  rw [e0] at e
  have c0 := h.c0
  have c2 := h.c2
  have c3 := h.c3
  rw [e] at c2
  have f3 := h.row.frozen 3
  have ef : ((fr + 1 : Nat) : Int) = (fr : Int) + 1 := by omega
  have HF : Hid (∀ m, SPick B Sb Gb Mb n v g O fr true cl (fr + 1) w (.returned (.tuple #[.int .i64 (fr : Int), .bool true])) ((w.setCell ⟨Sb, 3, none⟩ (.int .i64 ((fr : Int) + 1))).drewN m)) := Lib.hid (fun m => ⟨rfl, ((Chg.refl (fun k => k = Sb) w).set (by exact rfl) _).drewN m, v, by rw [← ef]; exact (h.set3 (fr + 1)).of_blocks (fun _ _ _ => rfl), rfl⟩)
  have g1 : decide ((fr : Int) < (n : Int)) = true := decide_eq_true (by omega)
  have g2 : (fr : Int) < (n : Int) := by omega
  have wf : IntKind.i64.wrap ((fr : Int) + 1) = (fr : Int) + 1 := by rw [IntKind.wrap_i64]; omega
  have wf2 : IntKind.i64.wrap ((fr : Int) + 1 - 1) = (fr : Int) := by rw [IntKind.wrap_i64]; omega
  have wf3 : IntKind.i64.wrap (fr : Int) = (fr : Int) := by rw [IntKind.wrap_i64]; omega
  clear h hi hk e e0
  go_enter Try.func152, Try.ntmps152
  go_wp2_with fail
  go_quiet (fail)
  go_wp2_with fail
  exact bodyPost_ret (v := .tuple #[.int .i64 (fr : Int), .bool true]) (by simp [results, Try.results152, go_sem]) rfl (HF.out nq)
set_option maxHeartbeats 2000000 in
theorem pick_none (h : SlotsAt B w Sb Gb Mb n v g O cl fr) (hk : cl = []) (hf : ¬ fr < n) :
    Calls Try.prog 152 #[.pointer (some ⟨Sb, 0, none⟩)] w fun e w' => e = .returned (.tuple #[.int .i64 0, .bool false]) ∧ Below w.heap.size w w' := by
  obtain ⟨A, c, e, hi, hc, hcb⟩ := h.own.ints
  have e0 : (ints cl).length = 0 := by rw [hk]; rfl
  rw [e0] at e
  have c0 := h.c0
  have c2 := h.c2
  have c3 := h.c3
  rw [e] at c2
  have g1 : decide ((fr : Int) < (n : Int)) = false := decide_eq_false (by omega)
  clear h hi hk e e0
  go_enter Try.func152, Try.ntmps152
  go_wp2_with fail
  go_quiet (fail)
  go_wp2_with fail
  go_ret2
  exact ⟨rfl, bel_drewN (Below.refl _ _) nq⟩

/-- Which place is opened, and what is left. -/
def pickP (cl : List Nat) (fr n : Nat) : Option (Nat × List Nat × Nat) :=
  if cl.length ≠ 0 then some (cl.getD (cl.length - 1) 0, cl.take (cl.length - 1), fr) else if fr < n then some (fr, cl, fr + 1) else none
theorem slots_pick {p : Nat} {cl' : List Nat} {fr' : Nat} (h : SlotsAt B w Sb Gb Mb n v g O cl fr) (hi : SlInv n O cl fr) (hp : pickP cl fr n = some (p, cl', fr')) :
    Calls Try.prog 152 #[.pointer (some ⟨Sb, 0, none⟩)] w (SPick B Sb Gb Mb n v g O p true cl' fr' w) := by
  unfold pickP at hp
  by_cases h0 : cl.length ≠ 0
  · rw [if_pos h0] at hp
    cases hp
    have := hi.cl_len
    have := hi.n1
    exact pick_closed (cl.length - 1) h (by omega) (by omega)
  · rw [if_neg h0] at hp
    by_cases hf : fr < n
    · rw [if_pos hf] at hp
      cases hp
      exact pick_fresh h (List.eq_nil_of_length_eq_zero (by omega)) hf hi.n1
    · rw [if_neg hf] at hp; cases hp
theorem SlInv.pick {p : Nat} {cl' : List Nat} {fr' : Nat} (hi : SlInv n O cl fr) (hp : pickP cl fr n = some (p, cl', fr')) : SlInv n (p :: O) cl' fr' ∧ p ∉ O ∧ p < n ∧ p < fr' := by
  unfold pickP at hp
  by_cases h0 : cl.length ≠ 0
  · rw [if_pos h0] at hp
    cases hp
    have hl : cl.length - 1 < cl.length := by omega
    have e : cl.getD (cl.length - 1) 0 = cl[cl.length - 1] := by simp [List.getD, hl]
    have hm : cl.getD (cl.length - 1) 0 ∈ cl := by rw [e]; exact List.getElem_mem _
    have h2 := hi.c2 _ hm
    have hf1 := hi.f1
    have hnot : cl.getD (cl.length - 1) 0 ∉ cl.take (cl.length - 1) := by
      rw [e]
      intro h
      rw [List.mem_take_iff_getElem] at h
      obtain ⟨i, hi', hii⟩ := h
      have := List.nodup_iff_pairwise_ne.1 hi.c1
      rw [List.pairwise_iff_getElem] at this
      exact this i (cl.length - 1) (by omega) hl (by omega) hii
    refine ⟨⟨List.nodup_cons.2 ⟨h2.2, hi.o1⟩, hi.c1.sublist (List.take_sublist _ _), fun x hx => ?_, fun x hx => ⟨(hi.c2 x (List.mem_of_mem_take hx)).1, fun hx2 => ?_⟩, hi.f1, hi.n1⟩, h2.2, by omega, h2.1⟩
    · rcases List.mem_cons.1 hx with h | h
      · rw [h]; exact h2.1
      · exact hi.o2 x h
    · rcases List.mem_cons.1 hx2 with h | h
      · rw [h] at hx; exact hnot hx
      · exact (hi.c2 x (List.mem_of_mem_take hx)).2 h
  · rw [if_neg h0] at hp
    by_cases hf : fr < n
    · rw [if_pos hf] at hp
      cases hp
      have hno : fr ∉ O := fun h => by have := hi.o2 _ h; omega
      refine ⟨⟨List.nodup_cons.2 ⟨hno, hi.o1⟩, hi.c1, fun x hx => ?_, fun x hx => ?_, by omega, hi.n1⟩, hno, hf, by omega⟩
      · rcases List.mem_cons.1 hx with h | h
        · omega
        · have := hi.o2 x h; omega
      · have hh := hi.c2 x hx
        refine ⟨by omega, fun h2 => ?_⟩
        rcases List.mem_cons.1 h2 with h | h
        · omega
        · exact hh.2 h
    · rw [if_neg hf] at hp; cases hp
def SOpen (B : Nat) (Sb Gb Mb n : Nat) (v : Value) (g : List Int) (O : List Nat) (p : Nat) (cl' : List Nat) (fr' : Nat) (w : World) (e : Ending) (w' : World) : Prop :=
  e = .returned (.tuple #[.int .i64 (p : Int), .int .i64 (g.getD p 0), .bool true]) ∧ Chg (fun k => k = Sb ∨ k = Mb) w w' ∧ ∃ v', SlotsAt B w' Sb Gb Mb n v' g (p :: O) cl' fr' ∧ v'.ownBlock = v.ownBlock
set_option maxRecDepth 100000 in
set_option maxHeartbeats 4000000 in
theorem slots_Open {p : Nat} {cl' : List Nat} {fr' : Nat} (h : SlotsAt B w Sb Gb Mb n v g O cl fr) (hi : SlInv n O cl fr) (hp : pickP cl fr n = some (p, cl', fr')) :
    Calls Try.prog 127 #[.pointer (some ⟨Sb, 0, none⟩)] w (SOpen B Sb Gb Mb n v g O p cl' fr' w) := by
  have K := Lib.hid (slots_pick h hi hp)
  obtain ⟨hi2, hno, hpn, hpf⟩ := hi.pick hp
  have hol := hi.o_len
  have hn1 := hi.n1
  have HB1 := Lib.hid (show p ≤ 1048576 by omega)
  have hlt := h.row.lt
  clear h hi hp hi2
  go_enter Try.func127, Try.ntmps127
  go_wp2_with fail
  refine K.out.mono ?_
  rintro e w1 ⟨rfl, hc1, v', h1, hv⟩
  have c1 := h1.c1
  obtain ⟨w2, hrun, hset, hgr⟩ := h1.set.add p ⟨by omega, by omega⟩ hno (by unfold maxLen; omega)
  have h2 : SlotsAt B w2 Sb Gb Mb n v' g (p :: O) cl' fr' :=
    ⟨h1.row.of_block (hgr.block _ h1.row.lt (fun e => by have := h1.ne2; cases e; exact this rfl)), h1.gens.of_block (hgr.block _ h1.gens.lt (fun e => by have := h1.ne3; cases e; exact this rfl)), h1.glen, hset,
      h1.own.of_block (fun k hk => hgr.block _ (World.ownsRow.lt h1.own k hk).2 (fun e => by have := (World.ownsRow.lt h1.own k hk).1; have := h1.lt3; cases e; omega)), h1.ne1, h1.ne2, h1.ne3, h1.lt1, h1.lt2, h1.lt3⟩
  have d0 := h2.c0
  have dg := h2.gen hpn
  have HF : Hid (∀ m, SOpen B Sb Gb Mb n v g O p cl' fr' w (.returned (.tuple #[.int .i64 (p : Int), .int .i64 (g.getD p 0), .bool true])) (w2.drewN m)) := Lib.hid (fun m => ⟨rfl, ((hc1.mono (fun k _ e => .inl e)).trans (Chg.of_grown hgr (fun k e => by cases e; exact .inr rfl))).drewN m, v', h2.of_blocks (fun _ _ _ => rfl), hv⟩)
  have j0 : (0 : Int) ≤ (p : Int) := by omega
  have j1 : (p : Int) < (n : Int) := by omega
  generalize g.getD p 0 = gp at *
  clear hset hgr h1 h2 hc1
  go_wp2_with fail
  go_quiet (fail)
  go_wp2_with fail
  exact bodyPost_ret (v := .tuple #[.int .i64 (p : Int), .int .i64 gp, .bool true]) (by simp [results, Try.results127, go_sem]) rfl (HF.out nq)
set_option maxHeartbeats 2000000 in
theorem slots_Open_no (h : SlotsAt B w Sb Gb Mb n v g O cl fr) (hp : pickP cl fr n = none) :
    Calls Try.prog 127 #[.pointer (some ⟨Sb, 0, none⟩)] w fun e w' => e = .returned (.tuple #[.int .i64 0, .int .i64 0, .bool false]) ∧ Below w.heap.size w w' := by
  unfold pickP at hp
  have h0 : ¬ cl.length ≠ 0 := fun h0 => by rw [if_pos h0] at hp; cases hp
  rw [if_neg h0] at hp
  have hf : ¬ fr < n := fun hf => by rw [if_pos hf] at hp; cases hp
  have K := Lib.hid (pick_none h (List.eq_nil_of_length_eq_zero (by omega)) hf)
  clear h hp
  go_enter Try.func127, Try.ntmps127
  go_wp2_with fail
  refine K.out.mono ?_
  rintro e w1 ⟨rfl, h1⟩
  go_wp2_with fail
  exact bodyPost_ret (v := .tuple #[.int .i64 0, .int .i64 0, .bool false]) (by simp [results, Try.results127, go_sem]) rfl ⟨rfl, h1⟩
end Go.Proofs.Ytdhcmnbajkpjiaa
/-
  Slots: the walks of Right, Gen, Len, Close, New.
-/
namespace Go.Proofs.Ytdhcmnbajkpjiaa
open Go.RowKit
open Go.Maps
set_option linter.unusedVariables false
set_option linter.unusedSimpArgs false
attribute [local go_sem] drewN_alloc drewN_setCell
variable {B : Nat} {w : World} {Sb Gb Mb n : Nat} {v : Value} {g : List Int} {O cl : List Nat} {fr : Nat}

def rightB (O : List Nat) (g : List Int) (x y : Int) : Bool := decide (x ∈ ints O) && decide (g.getD x.toNat 0 = y)
set_option maxHeartbeats 2000000 in
theorem slots_Right (x y : Int) (h : SlotsAt B w Sb Gb Mb n v g O cl fr) (hi : SlInv n O cl fr) (hx : BdI x) :
    Calls Try.prog 123 #[.pointer (some ⟨Sb, 0, none⟩), .int .i64 x, .int .i64 y] w fun e w' => e = .returned (.bool (rightB O g x y)) ∧ Below w.heap.size w w' := by
  have c0 := h.c0
  have c1 := h.c1
  have hrun := h.set.look x hx
  by_cases hm : x ∈ ints O
  · obtain ⟨p, hp, rfl⟩ : ∃ p : Nat, p ∈ O ∧ x = p := by
      unfold ints at hm
      obtain ⟨p, hp, e⟩ := List.mem_map.1 hm
      exact ⟨p, hp, e.symm⟩
    have hpn : p < n := by have := hi.o2 p hp; have := hi.f1; omega
    have dg := h.gen hpn
    rw [decide_eq_true hm] at hrun
    have HE : Hid (decide (g.getD p 0 = y) = rightB O g (p : Int) y) := Lib.hid (by unfold rightB; rw [decide_eq_true hm]; simp)
    generalize g.getD p 0 = gp at *
    have j0 : (0 : Int) ≤ (p : Int) := by omega
    have j1 : (p : Int) < (n : Int) := by omega
    clear h hm hp
    go_enter Try.func123, Try.ntmps123
    go_wp2_with fail
    exact bodyPost_ret (v := .bool (gp == y)) (by simp [results, Try.results123, go_sem]) rfl ⟨ret_bool (by rw [← HE.out]; rfl), Below.refl _ _⟩
  · rw [decide_eq_false hm] at hrun
    have HE : Hid (false = rightB O g x y) := Lib.hid (by unfold rightB; rw [decide_eq_false hm]; simp)
    clear h hm
    go_enter Try.func123, Try.ntmps123
    go_wp2_with fail
    go_ret
    exact ⟨ret_bool HE.out, Below.refl _ _⟩
theorem slots_Gen_in (p : Nat) (h : SlotsAt B w Sb Gb Mb n v g O cl fr) (hp : p < n) :
    Calls Try.prog 113 #[.pointer (some ⟨Sb, 0, none⟩), .int .i64 (p : Int)] w fun e w' => e = .returned (.int .i64 (g.getD p 0)) ∧ w = w' := by
  have c0 := h.c0
  have dg := h.gen hp
  generalize g.getD p 0 = gp at *
  have j0 : (0 : Int) ≤ (p : Int) := by omega
  have j1 : (p : Int) < (n : Int) := by omega
  have j2 : ¬ (p : Int) < 0 := by omega
  have j3 : ¬ (n : Int) ≤ (p : Int) := by omega
  have j4 : ¬ n ≤ p := by omega
  clear h
  go_enter Try.func113, Try.ntmps113
  go_wp2_with fail
  go_ret
  exact ⟨rfl, rfl⟩
theorem slots_Len (h : SlotsAt B w Sb Gb Mb n v g O cl fr) :
    Calls Try.prog 122 #[.pointer (some ⟨Sb, 0, none⟩)] w fun e w' => e = .returned (.int .i64 (O.length : Int)) ∧ w = w' := by
  have c1 := h.c1
  have hrun := fun ty => h.set.len ty
  clear h
  go_enter Try.func122, Try.ntmps122
  go_wp2_with fail
  go_ret
  exact ⟨rfl, rfl⟩
/-- append in a list of operations, with all that stays. -/
theorem app_listG {ops : Array Oper} {rest : List Oper} {o : Oper} {a : Act} {Q : Exit → Act → World → Prop} {w : World} (hgd : o.guard = none) (s x : Operand)
    (ho : o.op = .call { callee := .builtin .append, args := #[s, x], argTypes := #[27, 27] })
    (B : Nat) (v : Value) (l : List Int) (hsv : a.eval s = v) (hown : OwnI B w v l)
    (A : Option Addr) (m c : Nat) (l2 : List Int) (hx : a.eval x = .slice A m c) (hs : SrcS 1 w A m (cellsI l2)) (hlen : l.length + m ≤ 1048576) (hbase : B ≤ w.heap.size)
    (h : ∀ v' w', OwnI B w' v' (l ++ l2) → w.grownBy w' v.ownBlock → (v'.ownBlock = v.ownBlock ∨ v'.ownBlock = some w.heap.size) → wpList Try.prog ops Q rest (a.put o.dst v') w') : wpList Try.prog ops Q (o :: rest) a w := by
  obtain ⟨i, hi, hz, hsz, hby⟩ := infoInt
  refine wpList_append_S w hgd 1 (by decide) s x 27 ho B 3 i _ 8 Try.underlying27 hi hz hsz hby rfl v l.length _ hsv hown A m c _ hx hs (cellsI_one' l2) (by unfold maxLen; omega) (by omega) hbase (fun v' w' h2 h3 h4 => ?_)
  refine h v' w' ?_ h3 h4
  have hm : m = l2.length := by have := hs.1; simp only [cellsI, List.length_map] at this; omega
  unfold OwnI
  rw [cellsI_append, List.length_append, ← hm]
  exact h2
end Go.Proofs.Ytdhcmnbajkpjiaa
/-
  Slots: the walks of Close and New.
-/
namespace Go.Proofs.Ytdhcmnbajkpjiaa
open Go.RowKit
open Go.Maps
set_option linter.unusedVariables false
set_option linter.unusedSimpArgs false
attribute [local go_sem] drewN_alloc drewN_setCell
variable {B : Nat} {w : World} {Sb Gb Mb n : Nat} {v : Value} {g : List Int} {O cl : List Nat} {fr : Nat}

theorem SlotsAt.below {w' : World} (h : SlotsAt B w Sb Gb Mb n v g O cl fr) (hb : Below w.heap.size w w') : SlotsAt B w' Sb Gb Mb n v g O cl fr := h.of_blocks (fun k hk _ => hb.block k hk)
theorem slots_Close_no (x y : Int) (h : SlotsAt B w Sb Gb Mb n v g O cl fr) (hi : SlInv n O cl fr) (hx : BdI x) (hr : rightB O g x y = false) :
    Calls Try.prog 112 #[.pointer (some ⟨Sb, 0, none⟩), .int .i64 x, .int .i64 y] w fun e w' => e = .returned (.bool false) ∧ Below w.heap.size w w' := by
  have K := slots_Right x y h hi hx
  rw [hr] at K
  replace K := Lib.hid K
  clear h hi hx hr
  go_enter Try.func112, Try.ntmps112
  go_wp2_with fail
  refine K.out.mono ?_
  rintro e w1 ⟨rfl, h1⟩
  go_wp2_with fail
  go_ret
  exact ⟨rfl, h1⟩
def SClose (B : Nat) (Sb Gb Mb n : Nat) (v : Value) (g : List Int) (O cl : List Nat) (fr p : Nat) (w : World) (e : Ending) (w' : World) : Prop :=
  e = .returned (.bool true) ∧ ∃ v', SlotsAt B w' Sb Gb Mb n v' (g.set p (IntKind.i64.wrap (g.getD p 0 + 1))) (O.erase p) (cl ++ [p]) fr ∧ Chg (fun k => k = Sb ∨ k = Gb ∨ k = Mb ∨ v.ownBlock = some k) w w' ∧ (v'.ownBlock = v.ownBlock ∨ ∃ k, v'.ownBlock = some k ∧ w.heap.size ≤ k)
theorem SlInv.close {p : Nat} (hi : SlInv n O cl fr) (hp : p ∈ O) : SlInv n (O.erase p) (cl ++ [p]) fr := by
  refine ⟨hi.o1.erase p, ?_, fun x hx => hi.o2 x (List.mem_of_mem_erase hx), fun x hx => ?_, hi.f1, hi.n1⟩
  · rw [List.nodup_append]
    exact ⟨hi.c1, by simp, fun a ha b hb => by simp at hb; rintro rfl; exact (hi.c2 a ha).2 (hb ▸ hp)⟩
  · rcases List.mem_append.1 hx with h | h
    · exact ⟨(hi.c2 x h).1, fun h2 => (hi.c2 x h).2 (List.mem_of_mem_erase h2)⟩
    · simp at h
      subst h
      exact ⟨hi.o2 _ hp, fun h2 => ((hi.o1.mem_erase_iff).1 h2).1 rfl⟩
theorem ints_snoc2 (d : List Nat) (i : Nat) : ints (d ++ [i]) = ints d ++ [(i : Int)] := by simp [ints]
theorem src_oneN {w : World} {g : Nat} {x : Int} (h : w.cell? ⟨g, 0, none⟩ = some (.int .i64 x)) : SrcS 1 w (some ⟨g, 0, none⟩) 1 (cellsI [x]) := src_oneI h
set_option maxRecDepth 100000 in
set_option maxHeartbeats 4000000 in
theorem slots_Close (p : Nat) (y : Int) (h : SlotsAt B w Sb Gb Mb n v g O cl fr) (hi : SlInv n O cl fr) (hr : rightB O g (p : Int) y = true) (hB : B ≤ w.heap.size) :
    Calls Try.prog 112 #[.pointer (some ⟨Sb, 0, none⟩), .int .i64 (p : Int), .int .i64 y] w (SClose B Sb Gb Mb n v g O cl fr p w) := by
  have hr2 := hr
  unfold rightB at hr2
  simp only [Bool.and_eq_true, decide_eq_true_eq] at hr2
  have hp : p ∈ O := in_ints.1 hr2.1
  have hpf := hi.o2 p hp
  have hf1 := hi.f1
  have hn1 := hi.n1
  have hpn : p < n := by omega
  have bp : BdI (p : Int) := ⟨by omega, by omega⟩
  have K := slots_Right (p : Int) y h hi bp
  rw [hr] at K
  replace K := Lib.hid K
  have H := Lib.hid h
  have HI := Lib.hid hi
  have HP := Lib.hid hp
  have j0 : (0 : Int) ≤ (p : Int) := by omega
  have j1 : (p : Int) < (n : Int) := by omega
  clear h hr hr2 hp
  go_enter Try.func112, Try.ntmps112
  go_wp2_with fail
  refine K.out.mono ?_
  rintro e w1 ⟨rfl, hb1⟩
  have h1 := H.out.below hb1
  have c1 := h1.c1
  obtain ⟨w2, hrun, hset, hgr⟩ := h1.set.del p bp HP.out HI.out.o1 0
  have blk : ∀ k, k < w1.heap.size → k ≠ Mb → w2.heap[k]? = w1.heap[k]? := fun k hk hne => hgr.block k hk (fun e => hne (by cases e; rfl))
  have r2 := h1.row.of_block (blk _ h1.row.lt h1.ne2)
  have s2 := h1.gens.of_block (blk _ h1.gens.lt h1.ne3)
  have o2 := h1.own.of_block (fun k hk => blk k (World.ownsRow.lt h1.own k hk).2 (by have := (World.ownsRow.lt h1.own k hk).1; have := h1.lt3; omega))
  have d0 : w2.cell? ⟨Sb, 0, none⟩ = some (.slice (some ⟨Gb, 0, none⟩) n n) := by rw [r2.cell]; rfl
  have dg : w2.cell? ⟨Gb, p, none⟩ = some (.int .i64 (g.getD p 0)) := by
    have := h1.glen
    rw [s2.cell]
    simp [List.getD, show p < g.length by omega]
  have fg := s2.frozen p
  obtain ⟨gp, hgp⟩ : ∃ gp, g.getD p 0 = gp := ⟨_, rfl⟩
  rw [hgp] at dg
  obtain ⟨x, hx⟩ : ∃ x, IntKind.i64.wrap (gp + 1) = x := ⟨_, rfl⟩
  obtain ⟨w3, hw3⟩ : ∃ w3, w2.setCell ⟨Gb, p, none⟩ (.int .i64 x) = w3 := ⟨_, rfl⟩
  have r3 : RowAt w3 Sb 166 [.slice (some ⟨Gb, 0, none⟩) n n, .map (some Mb), v, .int .i64 (fr : Int)] := by rw [← hw3]; exact r2.far h1.ne1 _
  have s3 : RowAt w3 Gb 3 ((g.set p x).map (Value.int .i64)) := by
    rw [← hw3, List.map_set]
    exact s2.set_ p _
  have e3 : ∀ k, k ≠ Gb → w3.heap[k]? = w2.heap[k]? := fun k hk => by rw [← hw3]; exact Below.heap_setCell _ _ _ _ hk
  have o3 : OwnI B w3 v (ints cl) := o2.of_block (fun k hk => e3 k (by have := (World.ownsRow.lt o2 k hk).1; have := h1.lt2; omega))
  have m3 : SetAt w3 Mb (O.erase p) := hset.of_block (e3 _ h1.ne3.symm)
  have z12 := hgr.size
  have z23 : w2.heap.size ≤ w3.heap.size := by rw [← hw3]; simp
  have z01 := hb1.size
  have C13 : Chg (fun k => k = Sb ∨ k = Gb ∨ k = Mb ∨ v.ownBlock = some k) w w3 := by
    rw [← hw3]
    exact ((Chg.of_below hb1).trans (Chg.of_grown hgr (fun k e => by cases e; exact .inr (.inr (.inl rfl))))).set (.inr (.inl rfl)) _
  have d2 : w3.cell? ⟨Sb, 2, none⟩ = some v := by rw [r3.cell]; rfl
  have HOA : Hid (OwnI B (w3.alloc (.cells #[.int .i64 (p : Int)] 3)) v (ints cl)) := Lib.hid (o3.of_block (fun k hk => Below.heap_alloc _ _ _ (World.ownsRow.lt o3 k hk).2))
  have HFZ := Lib.hid (r3.frozen 2)
  have HARM : Hid (∀ (v5 : Value) (w5 : World), OwnI B w5 v5 (ints cl ++ [(p : Int)]) → (w3.alloc (.cells #[.int .i64 (p : Int)] 3)).grownBy w5 v.ownBlock → (v5.ownBlock = v.ownBlock ∨ v5.ownBlock = some (w3.alloc (.cells #[.int .i64 (p : Int)] 3)).heap.size) →
      w5.cell? ⟨Sb, 2, none⟩ = some v ∧ w5.frozen? ⟨Sb, 2, none⟩ = false ∧ SClose B Sb Gb Mb n v g O cl fr p w (.returned (.bool true)) (w5.setCell ⟨Sb, 2, none⟩ v5)) := Lib.hid (fun v5 w5 ho5 hg5 hor5 => by
    have blk5 : ∀ k, k < w3.heap.size → v.ownBlock ≠ some k → w5.heap[k]? = w3.heap[k]? := fun k hk hne => (hg5.block k (by simp; omega) (fun e => hne e.symm)).trans (Below.heap_alloc _ _ _ hk)
    have hvS : v.ownBlock ≠ some Sb := fun e => by have := (World.ownsRow.lt o3 _ e).1; have := h1.lt1; omega
    have hvG : v.ownBlock ≠ some Gb := fun e => by have := (World.ownsRow.lt o3 _ e).1; have := h1.lt2; omega
    have hvM : v.ownBlock ≠ some Mb := fun e => by have := (World.ownsRow.lt o3 _ e).1; have := h1.lt3; omega
    have r5 := r3.of_block (blk5 _ r3.lt hvS)
    have s5 := s3.of_block (blk5 _ s3.lt hvG)
    have m5 := m3.of_block (blk5 _ m3.lt hvM)
    have z5 := hg5.size
    simp only [World.size_alloc] at z5
    have far : ∀ k, k ≠ Sb → (w5.setCell ⟨Sb, 2, none⟩ v5).heap[k]? = w5.heap[k]? := fun k hk => Below.heap_setCell _ _ _ _ hk
    refine ⟨by rw [r5.cell]; rfl, r5.frozen 2, rfl, v5, ?_, ?_, ?_⟩
    · rw [hgp, hx]
      refine ⟨r5.set_ 2 v5, s5.of_block (far _ h1.ne1.symm), by rw [List.length_set]; exact h1.glen, m5.of_block (far _ h1.ne2.symm), ?_, h1.ne1, h1.ne2, h1.ne3, h1.lt1, h1.lt2, h1.lt3⟩
      rw [ints_snoc2]
      exact ho5.of_block (fun k hk => far k (by have := (World.ownsRow.lt ho5 k hk).1; have := h1.lt1; omega))
    · refine (C13.trans ?_).set (.inl rfl) _
      exact (Chg.of_below (Below.refl _ _ |>.alloc (Nat.le_refl _) _)).trans (Chg.of_grown hg5 (fun k e => .inr (.inr (.inr e))))
    · rcases hor5 with h | h
      · exact .inl h
      · refine .inr ⟨_, h, ?_⟩
        simp only [World.size_alloc]; omega)
  have hle : (ints cl).length + 1 ≤ 1048576 + 1 := by rw [ints_len]; have := HI.out.cl_len; omega
  have hle2 : (ints cl).length + 1 ≤ 1048576 := by
    rw [ints_len]
    have h1' := (HI.out.close HP.out).cl_len
    rw [List.length_append] at h1'
    simp at h1'
    omega
  clear hset hgr h1 blk r2 s2 o2 r3 s3 e3 o3 m3 hgp C13
  have HW3 := Lib.hid hw3
  have f2w : w3.frozen? ⟨Sb, 2, none⟩ = false := HFZ.out
  clear hw3
  go_upto_region 5 with (fail)
  refine region_name ?_
  rintro W3 hW3
  obtain rfl : W3 = w3 := hW3.trans HW3.out
  clear hW3
  go_wp2_with (at_builtin; refine app_listG rfl (.tmp 30) (.tmp 32) rfl B v (ints cl) rfl HOA.out (some ⟨W3.heap.size, 0, none⟩) 1 1 [(p : Int)] rfl (src_oneN (by simp [go_sem])) hle2 (by simp; omega) ?_; intro v5 w5 ho5 hg5 hor5; obtain ⟨A5, c5, rfl, _, _, _⟩ := ho5.ints; obtain ⟨q2, qf2, HFIN⟩ := HARM.out _ w5 ho5 hg5 hor5; replace HFIN := Lib.hid HFIN; clear ho5 hg5 hor5)
  exact bodyPost_ret (v := .bool true) (by simp [results, Try.results112, go_sem]) rfl (by have hq := HFIN.out; rw [List.length_append] at hq; exact hq)

theorem made_ints (n : Nat) : madeCells #[Value.int .i64 0] n = ((List.replicate n (0 : Int)).map (Value.int .i64)).toArray := by
  apply Array.ext
  · simp [size_madeCells]
  · intro i h1 h2
    simp [madeCells, Nat.mod_one]
set_option maxHeartbeats 2000000 in
theorem slots_New (n : Nat) (w : World) (hn : n ≤ 1048576) :
    Calls Try.prog 108 #[.int .i64 (n : Int)] w fun e w' => e = .returned (.pointer (some ⟨w.heap.size + 2, 0, none⟩)) ∧ w'.heap.size = w.heap.size + 3 ∧ (∀ B', w.heap.size + 3 ≤ B' → SlotsAt B' w' (w.heap.size + 2) w.heap.size (w.heap.size + 1) n (.slice none 0 0) (List.replicate n 0) [] [] 0) ∧ Below w.heap.size w w' := by
  have hinfo : (Try.prog.info? 3).map (fun i => (i.zero, i.size, i.bytes)) = some (some (.int .i64 0), 1, 8) := by kernel_rfl
  have hmk := run_make_row' (P := Try.prog) 27 3 (.int .i64 0) 8 Try.underlying27 hinfo rfl .i64 .i64 n (by omega) (by omega)
  rw [made_ints] at hmk
  obtain ⟨Z, hZ⟩ : ∃ Z, ((List.replicate n (0 : Int)).map (Value.int .i64)).toArray = Z := ⟨_, rfl⟩
  rw [hZ] at hmk
  have HS : Hid (∀ B', w.heap.size + 3 ≤ B' → SlotsAt B' (((w.alloc (.cells Z 3)).alloc (.map #[] 0)).alloc (.cells #[.slice (some ⟨w.heap.size, 0, none⟩) n n, .map (some (w.heap.size + 1)), .slice none 0 0, .int .i64 0] 166)) (w.heap.size + 2) w.heap.size (w.heap.size + 1) n (.slice none 0 0) (List.replicate n 0) [] [] 0) := Lib.hid (fun B' hB' => by
    rw [← hZ]
    have e1 : (w.alloc (.cells ((List.replicate n (0 : Int)).map (Value.int .i64)).toArray 3)).heap.size = w.heap.size + 1 := by simp
    have e2 : ((w.alloc (.cells ((List.replicate n (0 : Int)).map (Value.int .i64)).toArray 3)).alloc (.map #[] 0)).heap.size = w.heap.size + 2 := by simp
    have r1 : RowAt (w.alloc (.cells ((List.replicate n (0 : Int)).map (Value.int .i64)).toArray 3)) w.heap.size 3 ((List.replicate n (0 : Int)).map (Value.int .i64)) := RowAt.new w 3 _
    have m1 := SetAt.made (w.alloc (.cells ((List.replicate n (0 : Int)).map (Value.int .i64)).toArray 3))
    rw [e1] at m1
    have r2 := RowAt.new ((w.alloc (.cells ((List.replicate n (0 : Int)).map (Value.int .i64)).toArray 3)).alloc (.map #[] 0)) 166 [.slice (some ⟨w.heap.size, 0, none⟩) n n, .map (some (w.heap.size + 1)), .slice none 0 0, .int .i64 0]
    rw [e2] at r2
    exact ⟨r2, (r1.alloc _).alloc _, by simp, m1.of_block (Below.heap_alloc _ _ _ m1.lt), OwnI.nil _ _, by omega, by omega, by omega, by omega, by omega, by omega⟩)
  have hmm := place_makeMap
  have g0 : ¬ (n : Int) < 0 := by omega
  have g1 : decide ((n : Int) < 0) = false := decide_eq_false g0
  have g2 : decide ((1048576 : Int) < (n : Int)) = false := decide_eq_false (by omega)
  have g3 : ¬ (1048576 : Int) < (n : Int) := by omega
  clear hinfo
  go_enter Try.func108, Try.ntmps108
  go_wp2_with fail
  exact bodyPost_ret (v := .pointer (some ⟨w.heap.size + 1 + 1, 0, none⟩)) (by simp [results, Try.results108, go_sem]) rfl ⟨rfl, by simp, fun B' hB' => HS.out B' hB', (by repeat (first | exact Below.refl _ _ | assumption | refine bel_drew ?_ | refine bel_drewN ?_ _ | refine bel_alloc ?_ _ | refine bel_set ?_ (by first | (dsimp only; omega) | (simp; done) | (simp; omega)) _ | refine bel_trans ?_ (by assumption)))⟩
end Go.Proofs.Ytdhcmnbajkpjiaa
/-
  A forest in memory; what its calls tell.
-/
namespace Go.Proofs.Ytdhcmnbajkpjiaa
open Go.RowKit
open Go.Maps
set_option linter.unusedVariables false
set_option linter.unusedSimpArgs false
attribute [local go_sem] drewN_alloc drewN_setCell

structure NodeAt (B : Nat) (w : World) (Fb Sb Gb Mb Pb C Nb Lb n : Nat) (v : Value) (g up : List Int) (O cl : List Nat) (fr : Nat) (R : Nat → List Nat) : Prop where
  row : RowAt w Fb 77 [.pointer (some ⟨Sb, 0, none⟩), .pointer (some ⟨C, 0, none⟩), .slice (some ⟨Pb, 0, none⟩) n n]
  par : RowAt w Pb 3 (up.map (Value.int .i64))
  ulen : up.length = n
  sl : SlotsAt B w Sb Gb Mb n v g O cl fr
  ch : ChainRows w C Nb Lb n (n + 1) R
  ne : [Fb, Sb, Gb, Mb, Pb, C, Nb, Lb].Nodup
  lt : Fb < B ∧ Pb < B ∧ C < B ∧ Nb < B ∧ Lb < B
  bw : B ≤ w.heap.size
/-- What holds of places, parents and lists. -/
structure FI (n : Nat) (up : List Int) (O cl : List Nat) (fr : Nat) (R : Nat → List Nat) : Prop where
  s : SlInv n O cl fr
  i1 : ∀ x i, i < n + 1 → x ∈ R i → x ∈ O
  i2 : ∀ x, x ∈ O → ∃ i, i < n + 1 ∧ x ∈ R i
  pa : ∀ x i, i < n + 1 → x ∈ R i → (i = n ∧ up.getD x 0 = -1) ∨ (i < n ∧ i ∈ O ∧ up.getD x 0 = (i : Int))
  n1 : n ≤ 4096
variable {B : Nat} {w : World} {Fb Sb Gb Mb Pb C Nb Lb n : Nat} {v : Value} {g up : List Int} {O cl : List Nat} {fr : Nat} {R : Nat → List Nat}
theorem FI.lt (hi : FI n up O cl fr R) {x : Nat} (hx : x ∈ O) : x < n := by have := hi.s.o2 x hx; have := hi.s.f1; omega
theorem FI.of (hi : FI n up O cl fr R) (x : Int) : 0 ≤ PC.ofV (n + 1) R x ↔ x ∈ ints O := by
  unfold PC.ofV
  rcases hr : PC.rowOf (n + 1) R x with _ | i
  · have h := PC.rowOf_none hr
    constructor
    · intro h0; exact absurd h0 (by decide)
    · intro hm
      unfold ints at hm
      obtain ⟨y, hy, rfl⟩ := List.mem_map.1 hm
      obtain ⟨i, hil, him⟩ := hi.i2 y hy
      exact absurd ⟨by omega, by simpa using him⟩ (h i hil)
  · obtain ⟨a, b, c, _⟩ := PC.rowOf_some hr
    have h1 := hi.i1 _ i a c
    refine ⟨fun _ => ?_, fun _ => by simp⟩
    unfold ints
    exact List.mem_map.2 ⟨x.toNat, h1, by omega⟩
def parV (O : List Nat) (up : List Int) (x : Int) : Int := if x ∈ ints O then up.getD x.toNat 0 else -1
def kidV (O : List Nat) (R : Nat → List Nat) (x : Int) : List Nat := if x ∈ ints O then R x.toNat else []
theorem NodeAt.f0 (h : NodeAt B w Fb Sb Gb Mb Pb C Nb Lb n v g up O cl fr R) : w.cell? ⟨Fb, 0, none⟩ = some (.pointer (some ⟨Sb, 0, none⟩)) := by rw [h.row.cell]; rfl
theorem NodeAt.f1 (h : NodeAt B w Fb Sb Gb Mb Pb C Nb Lb n v g up O cl fr R) : w.cell? ⟨Fb, 1, none⟩ = some (.pointer (some ⟨C, 0, none⟩)) := by rw [h.row.cell]; rfl
theorem NodeAt.f2 (h : NodeAt B w Fb Sb Gb Mb Pb C Nb Lb n v g up O cl fr R) : w.cell? ⟨Fb, 2, none⟩ = some (.slice (some ⟨Pb, 0, none⟩) n n) := by rw [h.row.cell]; rfl
theorem NodeAt.below {w' : World} (h : NodeAt B w Fb Sb Gb Mb Pb C Nb Lb n v g up O cl fr R) (hb : Below w.heap.size w w') : NodeAt B w' Fb Sb Gb Mb Pb C Nb Lb n v g up O cl fr R :=
  ⟨h.row.keep hb, h.par.keep hb, h.ulen, h.sl.below hb, h.ch.keep hb, h.ne, h.lt, Nat.le_trans h.bw hb.size⟩
theorem node_is (h : NodeAt B w Fb Sb Gb Mb Pb C Nb Lb n v g up O cl fr R) : Calls Try.prog 115 #[.pointer (some ⟨Fb, 0, none⟩)] w fun e w' => e = .returned (.bool true) ∧ w = w' := by
  have f1 := h.f1
  clear h
  go_enter Try.func115, Try.ntmps115
  go_wp2_with fail
  go_ret
  exact ⟨rfl, rfl⟩
theorem node_roots (h : NodeAt B w Fb Sb Gb Mb Pb C Nb Lb n v g up O cl fr R) : Calls Try.prog 116 #[.pointer (some ⟨Fb, 0, none⟩)] w fun e w' => e = .returned (.int .i64 (n : Int)) ∧ w = w' := by
  have f2 := h.f2
  clear h
  go_enter Try.func116, Try.ntmps116
  go_wp2_with fail
  go_ret
  exact ⟨rfl, rfl⟩
theorem node_Is (x : Int) (h : NodeAt B w Fb Sb Gb Mb Pb C Nb Lb n v g up O cl fr R) (hi : FI n up O cl fr R) : Calls Try.prog 48 #[.pointer (some ⟨Fb, 0, none⟩), .int .i64 x] w fun e w' => e = .returned (.bool (decide (x ∈ ints O))) ∧ w = w' := by
  have f1 := h.f1
  have K1 := Lib.hid (node_is h)
  have K2 := chain_Of x h.ch
  have hof := hi.of x
  generalize PC.ofV (n + 1) R x = y at *
  replace K2 := Lib.hid K2
  by_cases hy : 0 ≤ y
  · have HE : Hid (true = decide (x ∈ ints O)) := Lib.hid (decide_eq_true (hof.1 hy)).symm
    have q : decide (0 ≤ y) = true := decide_eq_true hy
    clear h hi hof
    go_enter Try.func48, Try.ntmps48
    go_wp2_with fail
    refine K1.out.mono ?_
    rintro e w1 ⟨rfl, rfl⟩
    go_wp2_with fail
    refine K2.out.mono ?_
    rintro e w1 ⟨rfl, rfl⟩
    go_wp2_with fail
    go_ret
    exact ⟨ret_bool HE.out, rfl⟩
  · have HE : Hid (false = decide (x ∈ ints O)) := Lib.hid (decide_eq_false (fun hm => hy (hof.2 hm))).symm
    have q : decide (0 ≤ y) = false := decide_eq_false hy
    clear h hi hof
    go_enter Try.func48, Try.ntmps48
    go_wp2_with fail
    refine K1.out.mono ?_
    rintro e w1 ⟨rfl, rfl⟩
    go_wp2_with fail
    refine K2.out.mono ?_
    rintro e w1 ⟨rfl, rfl⟩
    go_wp2_with fail
    go_ret
    exact ⟨ret_bool HE.out, rfl⟩
theorem node_Parent (x : Int) (h : NodeAt B w Fb Sb Gb Mb Pb C Nb Lb n v g up O cl fr R) (hi : FI n up O cl fr R) : Calls Try.prog 49 #[.pointer (some ⟨Fb, 0, none⟩), .int .i64 x] w fun e w' => e = .returned (.int .i64 (parV O up x)) ∧ w = w' := by
  have K1 := node_Is x h hi
  have f2 := h.f2
  by_cases hm : x ∈ ints O
  · rw [decide_eq_true hm] at K1
    replace K1 := Lib.hid K1
    obtain ⟨p, hp, rfl⟩ : ∃ p : Nat, p ∈ O ∧ x = p := by
      unfold ints at hm
      obtain ⟨p, hp, e⟩ := List.mem_map.1 hm
      exact ⟨p, hp, e.symm⟩
    have hpn := hi.lt hp
    have hul := h.ulen
    have d : w.cell? ⟨Pb, p, none⟩ = some (.int .i64 (up.getD p 0)) := by
      rw [h.par.cell]
      simp [List.getD, show p < up.length by omega]
    have HE : Hid (up.getD p 0 = parV O up (p : Int)) := Lib.hid (by unfold parV; rw [if_pos hm]; rfl)
    generalize up.getD p 0 = y at *
    have j0 : (0 : Int) ≤ (p : Int) := by omega
    have j1 : (p : Int) < (n : Int) := by omega
    clear h hi hm hp
    go_enter Try.func49, Try.ntmps49
    go_wp2_with fail
    refine K1.out.mono ?_
    rintro e w1 ⟨rfl, rfl⟩
    go_wp2_with fail
    go_ret
    exact ⟨ret_int HE.out, rfl⟩
  · rw [decide_eq_false hm] at K1
    replace K1 := Lib.hid K1
    have HE : Hid (-1 = parV O up x) := Lib.hid (by unfold parV; rw [if_neg hm])
    clear h hi hm
    go_enter Try.func49, Try.ntmps49
    go_wp2_with fail
    refine K1.out.mono ?_
    rintro e w1 ⟨rfl, rfl⟩
    go_wp2_with fail
    go_ret
    exact ⟨ret_int HE.out, rfl⟩
theorem gives_nil (w : World) : GivesInts w (ints []) (.returned (.slice none 0 0)) w := ⟨none, 0, 0, rfl, IntsFrom.nil, Below.refl _ _⟩
theorem node_Children (x : Int) (h : NodeAt B w Fb Sb Gb Mb Pb C Nb Lb n v g up O cl fr R) (hi : FI n up O cl fr R) : Calls Try.prog 51 #[.pointer (some ⟨Fb, 0, none⟩), .int .i64 x] w (GivesInts w (ints (kidV O R x))) := by
  have K1 := node_Is x h hi
  have f1 := h.f1
  by_cases hm : x ∈ ints O
  · rw [decide_eq_true hm] at K1
    replace K1 := Lib.hid K1
    have K2 := chain_List x h.ch
    obtain ⟨p, hp, rfl⟩ : ∃ p : Nat, p ∈ O ∧ x = p := by
      unfold ints at hm
      obtain ⟨p, hp, e⟩ := List.mem_map.1 hm
      exact ⟨p, hp, e.symm⟩
    have hpn := hi.lt hp
    have e1 : PC.rowV (n + 1) R (p : Int) = kidV O R (p : Int) := by
      rw [PC.rowV_in (by omega)]
      unfold kidV
      rw [if_pos hm]
      rfl
    rw [e1] at K2
    replace K2 := Lib.hid K2
    generalize kidV O R (p : Int) = D at *
    clear h hi hm hp e1
    go_enter Try.func51, Try.ntmps51
    go_wp2_with fail
    refine K1.out.mono ?_
    rintro e w1 ⟨rfl, rfl⟩
    go_wp2_with fail
    refine K2.out.mono ?_
    rintro e w1 ⟨A', n', c', rfl, a1, a2⟩
    have HG : Hid (GivesInts w (ints D) (.returned (.slice A' n' c')) w1) := Lib.hid ⟨_, _, _, rfl, a1, a2⟩
    go_wp2_with fail
    go_ret
    exact HG.out
  · rw [decide_eq_false hm] at K1
    replace K1 := Lib.hid K1
    have e1 : kidV O R x = [] := by unfold kidV; rw [if_neg hm]
    rw [e1]
    have HG := Lib.hid (gives_nil w)
    clear h hi hm
    go_enter Try.func51, Try.ntmps51
    go_wp2_with fail
    refine K1.out.mono ?_
    rintro e w1 ⟨rfl, rfl⟩
    go_wp2_with fail
    go_ret
    exact HG.out
theorem node_Len (h : NodeAt B w Fb Sb Gb Mb Pb C Nb Lb n v g up O cl fr R) : Calls Try.prog 44 #[.pointer (some ⟨Fb, 0, none⟩)] w fun e w' => e = .returned (.int .i64 (O.length : Int)) ∧ w = w' := by
  have f0 := h.f0
  have K1 := Lib.hid (node_is h)
  have K2 := Lib.hid (slots_Len h.sl)
  clear h
  go_enter Try.func44, Try.ntmps44
  go_wp2_with fail
  refine K1.out.mono ?_
  rintro e w1 ⟨rfl, rfl⟩
  go_wp2_with fail
  refine K2.out.mono ?_
  rintro e w1 ⟨rfl, rfl⟩
  go_wp2_with fail
  go_ret
  exact ⟨rfl, rfl⟩
end Go.Proofs.Ytdhcmnbajkpjiaa
/-
  The moves of a walk through a region that draws its order, one operation after the other, whatever the guards say.
-/
namespace Go.Proofs.Ytdhcmnbajkpjiaa
open Go.RowKit

section
variable {P : Program} {ops : Array Oper} {Q : Exit → Act → World → Prop} {md : Region.Mode} {S : World → Prop}

theorem at_list {i : Nat} {oi : Oper} (h : ops.toList[i]? = some oi) : ops[i]? = some oi := by simpa using h

/-- An operation that is carried out, and yields v in every world that meets S. -/
theorem tk_yes (i : Nat) {oi : Oper} {v : Value} {fuel : Nat} {listed : Array Bool} {a : Act} {w : World} (hi : ops.toList[i]? = some oi)
    (hs : Region.noSelect ops = true) (hf : Region.free md ops listed i = true) (hr : (Region.ready md ops listed).contains i = true)
    (hQ : ∀ c a w, Q (.panic c) (a.put oi.dst v) w → Q (.panic c) a w) (hw : Region.wanted oi (yielded ops a.tmps) = true) (hS : S w)
    (hy : ∀ w, S w → (execOp a.eval oi).run P w = .ok (.value v) w)
    (h : wpAnyH P md ops Q S fuel (listed.setIfInBounds i true) (a.put oi.dst v) w) : wpAnyH P md ops Q S (fuel + 1) listed a w :=
  wpAnyH_take (at_list hi) hs hf hr hQ (.inl ⟨hw, hy⟩) hS h

/-- An operation whose guard says no. -/
theorem tk_no (i : Nat) {oi : Oper} {fuel : Nat} {listed : Array Bool} {a : Act} {w : World} (hi : ops.toList[i]? = some oi)
    (hs : Region.noSelect ops = true) (hf : Region.free md ops listed i = true) (hr : (Region.ready md ops listed).contains i = true)
    (hQ : ∀ c a w, Q (.panic c) (a.put oi.dst undef) w → Q (.panic c) a w) (hw : Region.wanted oi (yielded ops a.tmps) = false) (hS : S w)
    (h : wpAnyH P md ops Q S fuel (listed.setIfInBounds i true) (a.put oi.dst undef) w) : wpAnyH P md ops Q S (fuel + 1) listed a w :=
  wpAnyH_take (at_list hi) hs hf hr hQ (.inr ⟨hw, rfl⟩) hS h

/-- The one operation that may come up: what follows stands behind KW. -/
theorem tk_call (i : Nat) {o : Oper} {fuel : Nat} {listed : Array Bool} {a : Act} {w : World} (ho : ops.toList[i]? = some o) (hr : Region.ready md ops listed = [i])
    (hw : Region.wanted o (yielded ops a.tmps) = true)
    (h : ∀ K' : Act → World → Prop, Shut (∀ a w, S w → (S w → wpAnyH P md ops Q S fuel (listed.setIfInBounds i true) a w) → K' a w) → Oper.wp P o a w K' Q) :
    wpAnyH P md ops Q S (fuel + 1) listed a w :=
  wpAnyH_ready hr (by simp) (AllReadyH.cons (at_list ho) (fun K' hK => by rw [if_pos hw]; exact h K' hK) AllReadyH.nil)

/-- Two operations that may come up. -/
theorem tk_two (i j : Nat) {o1 o2 : Oper} {fuel : Nat} {listed : Array Bool} {a : Act} {w : World} (ho1 : ops.toList[i]? = some o1) (ho2 : ops.toList[j]? = some o2) (hr : Region.ready md ops listed = [i, j])
    (hw1 : Region.wanted o1 (yielded ops a.tmps) = true) (hw2 : Region.wanted o2 (yielded ops a.tmps) = true)
    (h1 : ∀ K' : Act → World → Prop, Shut (∀ a w, S w → (S w → wpAnyH P md ops Q S fuel (listed.setIfInBounds i true) a w) → K' a w) → Oper.wp P o1 a w K' Q)
    (h2 : ∀ K' : Act → World → Prop, Shut (∀ a w, S w → (S w → wpAnyH P md ops Q S fuel (listed.setIfInBounds j true) a w) → K' a w) → Oper.wp P o2 a w K' Q) :
    wpAnyH P md ops Q S (fuel + 1) listed a w :=
  wpAnyH_ready hr (by simp) (AllReadyH.cons (at_list ho1) (fun K' hK => by rw [if_pos hw1]; exact h1 K' hK) (AllReadyH.cons (at_list ho2) (fun K' hK => by rw [if_pos hw2]; exact h2 K' hK) AllReadyH.nil))
end
end Go.Proofs.Ytdhcmnbajkpjiaa
/-
  A forest: Roots, add, Root, Child.
-/
namespace Go.Proofs.Ytdhcmnbajkpjiaa
open Go.RowKit
open Go.Maps
set_option linter.unusedVariables false
set_option linter.unusedSimpArgs false
attribute [local go_sem] drewN_alloc drewN_setCell
variable {B : Nat} {w : World} {Fb Sb Gb Mb Pb C Nb Lb n : Nat} {v : Value} {g up : List Int} {O cl : List Nat} {fr : Nat} {R : Nat → List Nat}

theorem ChainRows.of_blocks {w w' : World} {C Nb Lb n l : Nat} {R : Nat → List Nat} (h : ChainRows w C Nb Lb n l R) (e : ∀ k, (k = C ∨ k = Nb ∨ k = Lb) → w'.heap[k]? = w.heap[k]?) : ChainRows w' C Nb Lb n l R := by
  obtain ⟨s1, s2, s3⟩ := h.lt1
  have lt : ∀ k, k < w.heap.size → w'.heap[k]? = w.heap[k]? → k < w'.heap.size := fun k hk he => by
    rcases Nat.lt_or_ge k w'.heap.size with h1 | h1
    · exact h1
    · rw [Array.getElem?_eq_none h1, Array.getElem?_eq_getElem hk] at he; cases he
  have c : ∀ k, (k = C ∨ k = Nb ∨ k = Lb) → ∀ j, w'.cell? ⟨k, j, none⟩ = w.cell? ⟨k, j, none⟩ := fun k hk j => World.cell?_of_block (w := w) (e k hk)
  have f : ∀ k, (k = C ∨ k = Nb ∨ k = Lb) → ∀ j, w'.frozen? ⟨k, j, none⟩ = w.frozen? ⟨k, j, none⟩ := fun k hk j => by simp only [World.frozen?]; rw [e k hk]
  obtain ⟨St, h1, h2⟩ := h
  exact ⟨St, ⟨(c _ (.inl rfl) _).trans h1.c0, (c _ (.inl rfl) _).trans h1.c1, fun i hi => (c _ (.inr (.inl rfl)) _).trans (h1.n0 i hi), fun i hi => (c _ (.inr (.inl rfl)) _).trans (h1.n1 i hi), fun i hi => (c _ (.inr (.inl rfl)) _).trans (h1.n2 i hi),
    fun i hi => (c _ (.inr (.inr rfl)) _).trans (h1.l0 i hi), fun i hi => (c _ (.inr (.inr rfl)) _).trans (h1.l1 i hi), fun i hi => (c _ (.inr (.inr rfl)) _).trans (h1.l2 i hi),
    fun j => (f _ (.inr (.inl rfl)) _).trans (h1.fzn j), fun j => (f _ (.inr (.inr rfl)) _).trans (h1.fzl j), lt _ s1 (e _ (.inl rfl)), lt _ s2 (e _ (.inr (.inl rfl))), lt _ s3 (e _ (.inr (.inr rfl))),
    h1.aCN, h1.aCL, h1.aNL, h1.bn, h1.bl⟩, h2⟩
theorem ids_split {Fb Sb Gb Mb Pb C Nb Lb : Nat} (h : [Fb, Sb, Gb, Mb, Pb, C, Nb, Lb].Nodup) : Fb ≠ Sb ∧ Fb ≠ Gb ∧ Fb ≠ Mb ∧ Fb ≠ Pb ∧ Fb ≠ C ∧ Fb ≠ Nb ∧ Fb ≠ Lb ∧ Sb ≠ Gb ∧ Sb ≠ Mb ∧ Sb ≠ Pb ∧ Sb ≠ C ∧ Sb ≠ Nb ∧ Sb ≠ Lb ∧ Gb ≠ Mb ∧ Gb ≠ Pb ∧ Gb ≠ C ∧ Gb ≠ Nb ∧ Gb ≠ Lb ∧ Mb ≠ Pb ∧ Mb ≠ C ∧ Mb ≠ Nb ∧ Mb ≠ Lb ∧ Pb ≠ C ∧ Pb ≠ Nb ∧ Pb ≠ Lb ∧ C ≠ Nb ∧ C ≠ Lb ∧ Nb ≠ Lb := by
  refine ⟨?_, ?_, ?_, ?_, ?_, ?_, ?_, ?_, ?_, ?_, ?_, ?_, ?_, ?_, ?_, ?_, ?_, ?_, ?_, ?_, ?_, ?_, ?_, ?_, ?_, ?_, ?_, ?_⟩ <;> (intro e; subst e; simp at h)
set_option maxHeartbeats 2000000 in
theorem node_Roots (h : NodeAt B w Fb Sb Gb Mb Pb C Nb Lb n v g up O cl fr R) : Calls Try.prog 46 #[.pointer (some ⟨Fb, 0, none⟩)] w (GivesInts w (ints (R n))) := by
  have f1 := h.f1
  have K1 := Lib.hid (node_is h)
  have H := Lib.hid h
  have K2 : Hid (∀ W, Below w.heap.size w W → Calls Try.prog 116 #[.pointer (some ⟨Fb, 0, none⟩)] W fun e w' => e = .returned (.int .i64 (n : Int)) ∧ W = w') := Lib.hid (fun W hW => node_roots (h.below hW))
  have K3 : Hid (∀ W, Below w.heap.size w W → Calls Try.prog 20 #[.pointer (some ⟨C, 0, none⟩), .int .i64 (n : Int)] W (GivesInts W (ints (R n)))) := Lib.hid (fun W hW => by
    have K := chain_List (n : Int) (h.ch.keep hW)
    rwa [PC.rowV_in (by omega)] at K)
  have hS : Hid (∀ W : World, Below w.heap.size w W → (fun W : World => W.cell? ⟨Fb, 1, none⟩ = some (.pointer (some ⟨C, 0, none⟩))) W) := Lib.hid (fun W hW => (hW.cell h.row.lt).trans f1)
  generalize ints (R n) = D at *
  clear h
  go_enter Try.func46, Try.ntmps46
  go_wp2_with fail
  refine K1.out.mono ?_
  rintro e w1 ⟨rfl, rfl⟩
  go_wp2_with fail
  refine wp_region_held_drew (S := (fun W : World => W.cell? ⟨Fb, 1, none⟩ = some (.pointer (some ⟨C, 0, none⟩)))) (by kernel_rfl) ?_ (fun hHeld => ?_)
  focus ((try dsimp only); exact hS.out _ (by repeat (first | exact Below.refl _ _ | assumption | refine bel_drew ?_ | refine bel_drewN ?_ _ | refine bel_trans ?_ (by assumption))))
  refine tk_yes 0 (v := ?_) rfl (by kernel_rfl) (by kernel_rfl) (by kernel_rfl) (fun _ _ _ h => h) (by kernel_rfl) (by assumption) ?_ ?_; rotate_left; (focus (intro w hSw; (try dsimp only at hSw); go_simp; (first | done | (with_reducible rfl)))); (try simp only [Act.put, List.setIfInBounds_toArray, List.set_cons_zero, List.set_cons_succ])
  refine tk_yes 1 (v := ?_) rfl (by kernel_rfl) (by kernel_rfl) (by kernel_rfl) (fun _ _ _ h => h) (by kernel_rfl) (by assumption) ?_ ?_; rotate_left; (focus (intro w hSw; (try dsimp only at hSw); go_simp; (first | done | (with_reducible rfl)))); (try simp only [Act.put, List.setIfInBounds_toArray, List.set_cons_zero, List.set_cons_succ])
  refine tk_yes 2 (v := ?_) rfl (by kernel_rfl) (by kernel_rfl) (by kernel_rfl) (fun _ _ _ h => h) (by kernel_rfl) (by assumption) ?_ ?_; rotate_left; (focus (intro w hSw; (try dsimp only at hSw); go_simp; (first | done | (with_reducible rfl)))); (try simp only [Act.put, List.setIfInBounds_toArray, List.set_cons_zero, List.set_cons_succ])
  refine tk_yes 3 (v := ?_) rfl (by kernel_rfl) (by kernel_rfl) (by kernel_rfl) (fun _ _ _ h => h) (by kernel_rfl) (by assumption) ?_ ?_; rotate_left; (focus (intro w hSw; (try dsimp only at hSw); go_simp; (first | done | (with_reducible rfl)))); (try simp only [Act.put, List.setIfInBounds_toArray, List.set_cons_zero, List.set_cons_succ])
  refine tk_yes 4 (v := ?_) rfl (by kernel_rfl) (by kernel_rfl) (by kernel_rfl) (fun _ _ _ h => h) (by kernel_rfl) (by assumption) ?_ ?_; rotate_left; (focus (intro w hSw; (try dsimp only at hSw); go_simp; (first | done | (with_reducible rfl)))); (try simp only [Act.put, List.setIfInBounds_toArray, List.set_cons_zero, List.set_cons_succ])
  refine tk_call 5 rfl (by kernel_rfl) (by kernel_rfl) (fun KW hKW => ?_); go_simp; go_at_call 116; refine (K2.out _ (by repeat (first | exact Below.refl _ _ | assumption | refine bel_drew ?_ | refine bel_drewN ?_ _ | refine bel_trans ?_ (by assumption)))).mono ?_; rintro e u1 ⟨rfl, rfl⟩; refine hKW.out _ _ ?_ (fun hHeld => ?_); (focus ((try dsimp only); exact hS.out _ (by repeat (first | exact Below.refl _ _ | assumption | refine bel_drew ?_ | refine bel_drewN ?_ _ | refine bel_trans ?_ (by assumption))))); clear hKW KW; (try simp only [Act.put, List.setIfInBounds_toArray, List.set_cons_zero, List.set_cons_succ])
  refine tk_call 6 rfl (by kernel_rfl) (by kernel_rfl) (fun KW hKW => ?_); go_simp; go_at_call 20; refine (K3.out _ (by repeat (first | exact Below.refl _ _ | assumption | refine bel_drew ?_ | refine bel_drewN ?_ _ | refine bel_trans ?_ (by assumption)))).mono ?_; rintro e u2 ⟨A', n', c', rfl, a1, a2⟩; have t2 := bel_trans (bel_drew (Below.refl w.heap.size w)) a2; have HG : Hid (GivesInts w D (.returned (.slice A' n' c')) u2) := Lib.hid ⟨_, _, _, rfl, a1.mono (by simp), t2⟩; clear a1 a2; refine hKW.out _ _ ?_ (fun hHeld => ?_); (focus ((try dsimp only); exact hS.out _ (by repeat (first | exact Below.refl _ _ | assumption | refine bel_drew ?_ | refine bel_drewN ?_ _ | refine bel_trans ?_ (by assumption))))); clear hKW KW; (try simp only [Act.put, List.setIfInBounds_toArray, List.set_cons_zero, List.set_cons_succ])
  refine tk_yes 7 (v := ?_) rfl (by kernel_rfl) (by kernel_rfl) (by kernel_rfl) (fun _ _ _ h => h) (by kernel_rfl) (by assumption) ?_ ?_; rotate_left; (focus (intro w hSw; (try dsimp only at hSw); go_simp; (first | done | (with_reducible rfl)))); (try simp only [Act.put, List.setIfInBounds_toArray, List.set_cons_zero, List.set_cons_succ])
  refine wpAnyH_done (by kernel_rfl) ?_ _
  go_wp2_with fail
  go_ret
  exact HG.out

theorem FI.not_in (hi : FI n up O cl fr R) {p : Nat} (hp : p ∉ O) : PC.ofV (n + 1) R (p : Int) < 0 := by
  have := hi.of (p : Int)
  by_cases h0 : 0 ≤ PC.ofV (n + 1) R (p : Int)
  · exact absurd (in_ints.1 (this.1 h0)) hp
  · omega
def NAdd (B Fb Sb Gb Mb Pb C Nb Lb n : Nat) (v : Value) (g up : List Int) (O : List Nat) (R : Nat → List Nat) (i : Nat) (q : Int) (p : Nat) (cl' : List Nat) (fr' : Nat) (w : World) (e : Ending) (w' : World) : Prop :=
  e = .returned (.tuple #[.int .i64 (p : Int), .int .i64 (g.getD p 0), .bool true]) ∧ Chg (fun k => k = Sb ∨ k = Mb ∨ k = Pb ∨ k = Nb ∨ k = Lb) w w' ∧ ∃ v', NodeAt B w' Fb Sb Gb Mb Pb C Nb Lb n v' g (up.set p q) (p :: O) cl' fr' (PC.updR R i (R i ++ [p])) ∧ v'.ownBlock = v.ownBlock
set_option maxRecDepth 100000 in
set_option maxHeartbeats 4000000 in
theorem node_add {p : Nat} {cl' : List Nat} {fr' : Nat} (i : Nat) (q : Int) (h : NodeAt B w Fb Sb Gb Mb Pb C Nb Lb n v g up O cl fr R) (hi : FI n up O cl fr R) (hil : i < n + 1) (hp : pickP cl fr n = some (p, cl', fr')) :
    Calls Try.prog 114 #[.pointer (some ⟨Fb, 0, none⟩), .int .i64 (i : Int), .int .i64 q] w (NAdd B Fb Sb Gb Mb Pb C Nb Lb n v g up O R i q p cl' fr' w) := by
  have K := Lib.hid (slots_Open h.sl hi.s hp)
  obtain ⟨hi2, hno, hpn, hpf⟩ := hi.s.pick hp
  have f0 := h.f0
  have HN := Lib.hid (hi.not_in hno)
  have H := Lib.hid h
  have hn := h.ne
  obtain ⟨nFbSb, nFbGb, nFbMb, nFbPb, nFbC, nFbNb, nFbLb, nSbGb, nSbMb, nSbPb, nSbC, nSbNb, nSbLb, nGbMb, nGbPb, nGbC, nGbNb, nGbLb, nMbPb, nMbC, nMbNb, nMbLb, nPbC, nPbNb, nPbLb, nCNb, nCLb, nNbLb⟩ := ids_split hn
  clear hn
  clear h hi hp hi2
  go_enter Try.func114, Try.ntmps114
  go_wp2_with fail
  refine K.out.mono ?_
  rintro e w1 ⟨rfl, hc1, v', h1, hv⟩
  have e1 : ∀ k, k < w.heap.size → k ≠ Sb → k ≠ Mb → w1.heap[k]? = w.heap[k]? := fun k hk a b => hc1.block k hk (fun h => by rcases h with h | h; exact a h; exact b h)
  have r1 := H.out.row.of_block (e1 _ H.out.row.lt (by first | assumption | exact Ne.symm (by assumption)) (by first | assumption | exact Ne.symm (by assumption)))
  have p1 := H.out.par.of_block (e1 _ H.out.par.lt (by first | assumption | exact Ne.symm (by assumption)) (by first | assumption | exact Ne.symm (by assumption)))
  obtain ⟨z1, z2, z3⟩ := H.out.ch.lt1
  have q1 : ChainRows w1 C Nb Lb n (n + 1) R := H.out.ch.of_blocks (fun k hk => e1 k (by rcases hk with rfl | rfl | rfl <;> assumption) (by rcases hk with rfl | rfl | rfl <;> first | assumption | exact Ne.symm (by assumption)) (by rcases hk with rfl | rfl | rfl <;> first | assumption | exact Ne.symm (by assumption)))
  have g0 : w1.cell? ⟨Fb, 0, none⟩ = some (.pointer (some ⟨Sb, 0, none⟩)) := by rw [r1.cell]; rfl
  have g1 : w1.cell? ⟨Fb, 1, none⟩ = some (.pointer (some ⟨C, 0, none⟩)) := by rw [r1.cell]; rfl
  have g2 : w1.cell? ⟨Fb, 2, none⟩ = some (.slice (some ⟨Pb, 0, none⟩) n n) := by rw [r1.cell]; rfl
  have hul := H.out.ulen
  have d1 : w1.cell? ⟨Pb, p, none⟩ = some (.int .i64 (up.getD p 0)) := by
    rw [p1.cell]
    simp [List.getD, show p < up.length by omega]
  have fz := p1.frozen p
  obtain ⟨w2, hw2⟩ : ∃ w2, w1.setCell ⟨Pb, p, none⟩ (.int .i64 q) = w2 := ⟨_, rfl⟩
  have e2 : ∀ k, k ≠ Pb → w2.heap[k]? = w1.heap[k]? := fun k hk => by rw [← hw2]; exact Below.heap_setCell _ _ _ _ hk
  have r2 := r1.of_block (e2 Fb (by first | assumption | exact Ne.symm (by assumption)))
  have p2 : RowAt w2 Pb 3 ((up.set p q).map (Value.int .i64)) := by rw [← hw2, List.map_set]; exact p1.set_ p _
  have q2 : ChainRows w2 C Nb Lb n (n + 1) R := q1.of_blocks (fun k hk => e2 k (by rcases hk with rfl | rfl | rfl <;> first | assumption | exact Ne.symm (by assumption)))
  have s2 : SlotsAt B w2 Sb Gb Mb n v' g (p :: O) cl' fr' := h1.of_blocks (fun k hk hh => e2 k (by
    rcases hh with rfl | rfl | rfl | h
    · first | assumption | exact Ne.symm (by assumption)
    · first | assumption | exact Ne.symm (by assumption)
    · first | assumption | exact Ne.symm (by assumption)
    · have := (World.ownsRow.lt h1.own k h).1; have := H.out.lt.2.1; omega))
  have c2 : Chg (fun k => k = Sb ∨ k = Mb ∨ k = Pb ∨ k = Nb ∨ k = Lb) w w2 := by
    rw [← hw2]
    exact (hc1.mono (fun k _ h => by rcases h with h | h; exact .inl h; exact .inr (.inl h))).set (.inr (.inr (.inl rfl))) _
  have hadd : PC.addB n (n + 1) R (i : Int) (p : Int) = true := by
    unfold PC.addB
    exact decide_eq_true ⟨by omega, by omega, by omega, by omega, HN.out⟩
  have KA := chain_Add (i : Int) (p : Int) q2
  have er : PC.addR n (n + 1) R (i : Int) (p : Int) = PC.updR R i (R i ++ [p]) := by
    unfold PC.addR
    rw [hadd]
    simp
  rw [hadd, er] at KA
  have HFIN : Hid (∀ w3, ChainRows w3 C Nb Lb n (n + 1) (PC.updR R i (R i ++ [p])) → Off Nb Lb w2 w3 → NAdd B Fb Sb Gb Mb Pb C Nb Lb n v g up O R i q p cl' fr' w (.returned (.tuple #[.int .i64 (p : Int), .int .i64 (g.getD p 0), .bool true])) w3) := Lib.hid (fun w3 h3 ho => by
    have e3 : ∀ k, k < w2.heap.size → k ≠ Nb → k ≠ Lb → w3.heap[k]? = w2.heap[k]? := fun k hk a b => ho.block k a b hk
    refine ⟨rfl, c2.trans (Chg.of_off ho (.inr (.inr (.inr (.inl rfl)))) (.inr (.inr (.inr (.inr rfl))))), v', ⟨r2.of_block (e3 _ r2.lt (by first | assumption | exact Ne.symm (by assumption)) (by first | assumption | exact Ne.symm (by assumption))), p2.of_block (e3 _ p2.lt (by first | assumption | exact Ne.symm (by assumption)) (by first | assumption | exact Ne.symm (by assumption))), by rw [List.length_set]; exact hul, s2.of_blocks (fun k hk hh => e3 k hk ?_ ?_), h3, H.out.ne, H.out.lt, ?_⟩, hv⟩
    · rcases hh with rfl | rfl | rfl | h
      · first | assumption | exact Ne.symm (by assumption)
      · first | assumption | exact Ne.symm (by assumption)
      · first | assumption | exact Ne.symm (by assumption)
      · have := (World.ownsRow.lt s2.own k h).1; have := H.out.lt; omega
    · rcases hh with rfl | rfl | rfl | h
      · first | assumption | exact Ne.symm (by assumption)
      · first | assumption | exact Ne.symm (by assumption)
      · first | assumption | exact Ne.symm (by assumption)
      · have := (World.ownsRow.lt s2.own k h).1; have := H.out.lt; omega
    · have := H.out.bw; have := c2.size; have := ho.size; omega)
  generalize g.getD p 0 = gp at *
  replace KA := Lib.hid KA
  have HW2 := Lib.hid hw2
  have g1' : w2.cell? ⟨Fb, 1, none⟩ = some (.pointer (some ⟨C, 0, none⟩)) := by rw [r2.cell]; rfl
  have j0 : (0 : Int) ≤ (p : Int) := by omega
  have j1 : (p : Int) < (n : Int) := by omega
  clear hc1 h1 r1 p1 q1 hw2 e2 r2 p2 q2 s2 c2 e1 hadd er
  go_upto_region 5 with (fail)
  refine region_name ?_
  rintro W2 hW2
  obtain rfl : W2 = w2 := hW2.trans HW2.out
  clear hW2
  go_wp2_with fail
  refine KA.out.mono ?_
  rintro e w3 ⟨rfl, h3, ho⟩
  have HF2 := Lib.hid (HFIN.out w3 h3 ho)
  clear h3 ho
  go_wp2_with fail
  exact bodyPost_ret (v := .tuple #[.int .i64 (p : Int), .int .i64 gp, .bool true]) (by simp [results, Try.results114, go_sem]) rfl HF2.out
theorem node_add_no (i q : Int) (h : NodeAt B w Fb Sb Gb Mb Pb C Nb Lb n v g up O cl fr R) (hp : pickP cl fr n = none) :
    Calls Try.prog 114 #[.pointer (some ⟨Fb, 0, none⟩), .int .i64 i, .int .i64 q] w fun e w' => e = .returned (.tuple #[.int .i64 0, .int .i64 0, .bool false]) ∧ Below w.heap.size w w' := by
  have K := Lib.hid (slots_Open_no h.sl hp)
  have f0 := h.f0
  clear h hp
  go_enter Try.func114, Try.ntmps114
  go_wp2_with fail
  refine K.out.mono ?_
  rintro e w1 ⟨rfl, h1⟩
  go_wp2_with fail
  exact bodyPost_ret (v := .tuple #[.int .i64 0, .int .i64 0, .bool false]) (by simp [results, Try.results114, go_sem]) rfl ⟨rfl, h1⟩
end Go.Proofs.Ytdhcmnbajkpjiaa
