/-
  Chain: the contract of New.
-/
import Derived.Test.YtdhcmnbajkpjiaaChainG
import Derived.Test.YtdhcmnbajkpjiaaMakeAgg
import Derived.Deep.RegionHeld3
import Derived.Outline
namespace Go.Proofs.Ytdhcmnbajkpjiaa
open Go.RowKit
set_option linter.unusedVariables false
attribute [local go_sem] drewN_alloc drewN_setCell

theorem chain_New_no (l n : Int) (w : World) (h : l < 0 ∨ 1048576 < l ∨ n < 0 ∨ 1048576 < n) :
    Calls Try.prog 18 #[.int .i64 l, .int .i64 n] w fun e w' => e = .returned (.pointer none) ∧ w = w' := by
  by_cases h1 : l < 0
  · clear h
    go_enter Try.func18, Try.ntmps18
    go_wp2_with fail
    go_ret
    exact ⟨rfl, rfl⟩
  · by_cases h2 : 1048576 < l
    · clear h
      go_enter Try.func18, Try.ntmps18
      go_wp2_with fail
      go_ret
      exact ⟨rfl, rfl⟩
    · by_cases h3 : n < 0
      · clear h
        go_enter Try.func18, Try.ntmps18
        go_wp2_with fail
        go_ret
        exact ⟨rfl, rfl⟩
      · have h4 : 1048576 < n := by omega
        clear h
        go_enter Try.func18, Try.ntmps18
        go_wp2_with fail
        go_ret
        exact ⟨rfl, rfl⟩

/-- A chain of new memory, without nodes. -/
def MadeChain (w : World) (n l : Nat) (e : Ending) (w' : World) : Prop := ∃ C Nb Lb, e = .returned (.pointer (some ⟨C, 0, none⟩)) ∧ ChainRows w' C Nb Lb n l PC.none0 ∧ Below w.heap.size w w' ∧ w.heap.size ≤ C ∧ w.heap.size ≤ Nb ∧ w.heap.size ≤ Lb

/-- What a list's three cells hold at the beginning. -/
def lfill (j : Nat) : Value := if j % 3 = 2 then .int .i64 0 else .int .i64 (-1)
theorem lfill0 (k : Nat) : lfill (k * 3) = .int .i64 (-1) := by unfold lfill; rw [if_neg (by omega)]
theorem lfill1 (k : Nat) : lfill (k * 3 + 1) = .int .i64 (-1) := by unfold lfill; rw [if_neg (by omega)]
theorem lfill2 (k : Nat) : lfill (k * 3 + 2) = .int .i64 0 := by unfold lfill; rw [if_pos (by omega)]

theorem chain_none (w : World) : Calls Try.prog 100 #[] w fun e w' => e = .returned (.agg #[.int .i64 (-1), .int .i64 (-1)]) ∧ w.alloc (.cells #[.int .i64 (-1), .int .i64 (-1)] 122) = w' := by
  go_enter Try.func100, Try.ntmps100
  go_wp2_with fail
  exact bodyPost_ret (v := .agg #[.int .i64 (-1), .int .i64 (-1)]) (by simp [results, Try.results100, go_sem]) rfl ⟨rfl, rfl⟩

/-- What New has made, the nodes filled up to a, the lists up to b. -/
structure NewAt (w : World) (C Nb Lb n l a b : Nat) : Prop where
  rc : RowAt w C 45 [.slice (some ⟨Nb, 0, none⟩) n n, .slice (some ⟨Lb, 0, none⟩) l l]
  rn : RowAt w Nb 125 (filled (n * 3) a (fun _ => .int .i64 (-1)) (.int .i64 0))
  rl : RowAt w Lb 127 (filled (l * 3) b lfill (.int .i64 0))
  h1 : C ≠ Nb
  h2 : C ≠ Lb
  h3 : Nb ≠ Lb
theorem NewAt.done {w : World} {C Nb Lb n l : Nat} (h : NewAt w C Nb Lb n l (n * 3) (l * 3)) (h1 : n ≤ 1048576) (h2 : l ≤ 1048576) : ChainRows w C Nb Lb n l PC.none0 := by
  refine ⟨PC.CS.none, ?_, PC.inv_none n l⟩
  have fn : ∀ j, j < n * 3 → w.cell? ⟨Nb, j, none⟩ = some (.int .i64 (-1)) := fun j hj => by rw [h.rn.cell, filled_get _ _ hj, if_pos hj]
  have fl : ∀ j, j < l * 3 → w.cell? ⟨Lb, j, none⟩ = some (lfill j) := fun j hj => by rw [h.rl.cell, filled_get _ _ hj, if_pos hj]
  exact {
    c0 := by rw [h.rc.cell]; rfl
    c1 := by rw [h.rc.cell]; rfl
    n0 := fun i hi => fn _ (by omega)
    n1 := fun i hi => fn _ (by omega)
    n2 := fun i hi => fn _ (by omega)
    l0 := fun i hi => by rw [fl _ (by omega), lfill0]; rfl
    l1 := fun i hi => by rw [fl _ (by omega), lfill1]; rfl
    l2 := fun i hi => by rw [fl _ (by omega), lfill2]; rfl
    fzn := fun j => h.rn.frozen j
    fzl := fun j => h.rl.frozen j
    hC := h.rc.lt
    hN := h.rn.lt
    hL := h.rl.lt
    aCN := h.h1
    aCL := h.h2
    aNL := h.h3
    bn := h1
    bl := h2 }
/-- A cell of another block, behind a round's stores. -/
theorem keep3 {w : World} {C Nb a b c o : Nat} {x y z v : Value} {ob : Obj} (h : w.cell? ⟨C, o, none⟩ = some v) (hC : C < w.heap.size) (hne : C ≠ Nb) :
    ((((w.setCell ⟨Nb, a, none⟩ x).setCell ⟨Nb, b, none⟩ y).setCell ⟨Nb, c, none⟩ z).alloc ob).drew.cell? ⟨C, o, none⟩ = some v := by
  have e := fun (W : World) (p : Addr) (u : Value) (hp : p.block = Nb) => World.cell?_setCell_other W p ⟨C, o, none⟩ u (by rintro rfl; exact hne hp)
  have e2 := fun (W : World) (hW : C < W.heap.size) => Below.cell (((Below.refl W.heap.size W).alloc (Nat.le_refl _) ob).drew) (p := ⟨C, o, none⟩) hW
  rw [e2 _ (by simpa [World.setCell] using hC), e _ _ _ rfl, e _ _ _ rfl, e _ _ _ rfl, h]
theorem keep2 {w : World} {C Nb a b o : Nat} {x y v : Value} {ob : Obj} (h : w.cell? ⟨C, o, none⟩ = some v) (hC : C < w.heap.size) (hne : C ≠ Nb) :
    (((w.setCell ⟨Nb, a, none⟩ x).setCell ⟨Nb, b, none⟩ y).alloc ob).drew.cell? ⟨C, o, none⟩ = some v := by
  have e := fun (W : World) (p : Addr) (u : Value) (hp : p.block = Nb) => World.cell?_setCell_other W p ⟨C, o, none⟩ u (by rintro rfl; exact hne hp)
  have e2 := fun (W : World) (hW : C < W.heap.size) => Below.cell (((Below.refl W.heap.size W).alloc (Nat.le_refl _) ob).drew) (p := ⟨C, o, none⟩) hW
  rw [e2 _ (by simpa [World.setCell] using hC), e _ _ _ rfl, e _ _ _ rfl, h]
theorem NewAt.node {w : World} {C Nb Lb n l k b : Nat} (h : NewAt w C Nb Lb n l (k * 3) b) (o : Obj) :
    NewAt ((((w.setCell ⟨Nb, k * 3, none⟩ (.int .i64 (-1))).setCell ⟨Nb, k * 3 + 1, none⟩ (.int .i64 (-1))).setCell ⟨Nb, k * 3 + 2, none⟩ (.int .i64 (-1))).alloc o).drew C Nb Lb n l ((k + 1) * 3) b where
  rc := RowAt.drewN ((((h.rc.far (p := ⟨Nb, k * 3, none⟩) h.h1 _).far (p := ⟨Nb, k * 3 + 1, none⟩) h.h1 _).far (p := ⟨Nb, k * 3 + 2, none⟩) h.h1 _).alloc o) 1
  rl := RowAt.drewN ((((h.rl.far (p := ⟨Nb, k * 3, none⟩) (Ne.symm h.h3) _).far (p := ⟨Nb, k * 3 + 1, none⟩) (Ne.symm h.h3) _).far (p := ⟨Nb, k * 3 + 2, none⟩) (Ne.symm h.h3) _).alloc o) 1
  rn := by
    have := RowAt.drewN ((((h.rn.set_ (k * 3) (.int .i64 (-1))).set_ (k * 3 + 1) (.int .i64 (-1))).set_ (k * 3 + 2) (.int .i64 (-1))).alloc o) 1
    rwa [filled_set _ (k * 3) (fun _ => .int .i64 (-1)), filled_set _ (k * 3 + 1) (fun _ => .int .i64 (-1)), filled_set _ (k * 3 + 2) (fun _ => .int .i64 (-1)), show k * 3 + 2 + 1 = (k + 1) * 3 by omega] at this
  h1 := h.h1
  h2 := h.h2
  h3 := h.h3
theorem NewAt.list {w : World} {C Nb Lb n l k a : Nat} (h : NewAt w C Nb Lb n l a (k * 3)) (o : Obj) :
    NewAt (((w.setCell ⟨Lb, k * 3, none⟩ (.int .i64 (-1))).setCell ⟨Lb, k * 3 + 1, none⟩ (.int .i64 (-1))).alloc o).drew C Nb Lb n l a ((k + 1) * 3) where
  rc := RowAt.drewN (((h.rc.far (p := ⟨Lb, k * 3, none⟩) h.h2 _).far (p := ⟨Lb, k * 3 + 1, none⟩) h.h2 _).alloc o) 1
  rn := RowAt.drewN (((h.rn.far (p := ⟨Lb, k * 3, none⟩) h.h3 _).far (p := ⟨Lb, k * 3 + 1, none⟩) h.h3 _).alloc o) 1
  rl := by
    have := RowAt.drewN (((h.rl.set_ (k * 3) (.int .i64 (-1))).set_ (k * 3 + 1) (.int .i64 (-1))).alloc o) 1
    have e0 := filled_set (l * 3) (k * 3) lfill (.int .i64 0)
    have e1 := filled_set (l * 3) (k * 3 + 1) lfill (.int .i64 0)
    rw [lfill0] at e0
    rw [lfill1] at e1
    rwa [e0, e1, filled_same _ (k * 3 + 1 + 1) _ _ (lfill2 k), show k * 3 + 1 + 1 + 1 = (k + 1) * 3 by omega] at this
  h1 := h.h1
  h2 := h.h2
  h3 := h.h3

def NewRel1 (w : World) (C Nb Lb n l : Nat) (i : Value) (wr : World) : Prop := ∃ k : Nat, k ≤ n ∧ i = .int .i64 k ∧ NewAt wr C Nb Lb n l (k * 3) 0 ∧ Below w.heap.size w wr
def NewRel2 (w : World) (C Nb Lb n l : Nat) (i : Value) (wr : World) : Prop := ∃ k : Nat, k ≤ l ∧ i = .int .i64 k ∧ NewAt wr C Nb Lb n l (n * 3) (k * 3) ∧ Below w.heap.size w wr

set_option maxHeartbeats 4000000 in
theorem chain_New_yes (l n : Nat) (w : World) (h1 : l ≤ 1048576) (h2 : n ≤ 1048576) :
    Calls Try.prog 18 #[.int .i64 l, .int .i64 n] w (MadeChain w n l) := by
  have hinfo : (Try.prog.info? 125).map (fun i => (i.zero, i.size, i.bytes)) = some (some (.agg #[.int .i64 0, .int .i64 0, .int .i64 0]), 3, 24) := by kernel_rfl
  have hinfo2 : (Try.prog.info? 127).map (fun i => (i.zero, i.size, i.bytes)) = some (some (.agg #[.int .i64 0, .int .i64 0, .int .i64 0]), 3, 24) := by kernel_rfl
  have hmk := run_make_agg (P := Try.prog) 42 125 _ #[.int .i64 0, .int .i64 0, .int .i64 0] 3 24 Try.underlying42 hinfo rfl .i64 .i64 n (by omega) (by omega)
  have hmk2 := run_make_agg (P := Try.prog) 43 127 _ #[.int .i64 0, .int .i64 0, .int .i64 0] 3 24 Try.underlying43 hinfo2 rfl .i64 .i64 l (by omega) (by omega)
  rw [filled_made3 _ _ (fun _ => .int .i64 (-1))] at hmk
  rw [filled_made3 _ _ lfill] at hmk2
  clear hinfo hinfo2
  have g1 : (0 : Int) ≤ (l : Int) := by omega
  have g2 : (0 : Int) ≤ (n : Int) := by omega
  have g3 : (l : Int) ≤ 1048576 := by omega
  have g4 : (n : Int) ≤ 1048576 := by omega
  go_enter Try.func18, Try.ntmps18
  go_wp2_with fail
  go_region
  all_goals clear hmk hmk2
  · refine post_name ?_
    intro W hW
    have hN : NewAt W (w.heap.size + 1 + 1) (w.heap.size) (w.heap.size + 1) n l 0 0 := by
      rw [hW]
      have q0 := RowAt.new ((w.alloc (.cells (filled (n * 3) 0 (fun _ => .int .i64 (-1)) (.int .i64 0)).toArray 125)).alloc (.cells (filled (l * 3) 0 lfill (.int .i64 0)).toArray 127)) 45 [.slice (some ⟨w.heap.size, 0, none⟩) n n, .slice (some ⟨w.heap.size + 1, 0, none⟩) l l]
      have q1 := ((RowAt.new w 125 (filled (n * 3) 0 (fun _ => .int .i64 (-1)) (.int .i64 0))).alloc (.cells (filled (l * 3) 0 lfill (.int .i64 0)).toArray 127)).alloc (.cells #[.slice (some ⟨w.heap.size, 0, none⟩) n n, .slice (some ⟨w.heap.size + 1, 0, none⟩) l l] 45)
      have q2 := (RowAt.new (w.alloc (.cells (filled (n * 3) 0 (fun _ => .int .i64 (-1)) (.int .i64 0)).toArray 125)) 127 (filled (l * 3) 0 lfill (.int .i64 0))).alloc (.cells #[.slice (some ⟨w.heap.size, 0, none⟩) n n, .slice (some ⟨w.heap.size + 1, 0, none⟩) l l] 45)
      simp only [World.size_alloc] at q0 q1 q2
      exact { rc := q0, rn := q1, rl := q2, h1 := by omega, h2 := by omega, h3 := by omega }
    have hB : Below w.heap.size w W := by rw [hW]; exact (by repeat (first | exact Below.refl _ _ | assumption | refine bel_drew ?_ | refine bel_drewN ?_ _ | refine bel_alloc ?_ _ | refine bel_set ?_ (by first | (dsimp only; omega) | (simp; done) | (simp; omega)) _ | refine bel_trans ?_ (by assumption)))
    clear hW
    obtain ⟨C, hC⟩ : ∃ C, w.heap.size + 1 + 1 = C := ⟨_, rfl⟩
    obtain ⟨Nb, hNb⟩ : ∃ Nb, w.heap.size = Nb := ⟨_, rfl⟩
    obtain ⟨Lb, hLb⟩ : ∃ Lb, w.heap.size + 1 = Lb := ⟨_, rfl⟩
    have b1 : w.heap.size ≤ C := by omega
    have b2 : w.heap.size ≤ Nb := by omega
    have b3 : w.heap.size ≤ Lb := by omega
    rw [hC, hLb, hNb] at hN
    rw [hC]
    rw [hLb, hNb]
    clear hC hNb hLb
    have HN := Lib.hid hN
    have HB := Lib.hid hB
    have c0 : W.cell? ⟨C, 0, none⟩ = some (.slice (some ⟨Nb, 0, none⟩) n n) := by rw [hN.rc.cell]; rfl
    clear hN hB
    go_wp2_with fail
    clear c0
    go_loopw [34] (fun i wr => NewRel1 w C Nb Lb n l i wr) (fun i _ => n - (intOf i).toNat)
    case atStart => exact ⟨0, Nat.zero_le _, rfl, by simpa using HN.out, HB.out⟩
    case round =>
      clear HN HB
      obtain ⟨k, hk, rfl, hA, hbel⟩ := hrel
      have c0 : wr.cell? ⟨C, 0, none⟩ = some (.slice (some ⟨Nb, 0, none⟩) n n) := by rw [hA.rc.cell]; rfl
      have c1 : wr.cell? ⟨C, 1, none⟩ = some (.slice (some ⟨Lb, 0, none⟩) l l) := by rw [hA.rc.cell]; rfl
      have l1 := hA.rn.lt
      have l2 := hA.rc.lt
      have a1 := hA.h1
      have HA := Lib.hid hA
      have HBL := Lib.hid hbel
      have j1 : (0 : Int) ≤ (k : Int) := by omega
      by_cases hlt : (k : Int) < n
      · have s0 : wr.cell? ⟨Nb, k * 3, none⟩ = some (.int .i64 0) := by rw [hA.rn.cell, filled_get _ _ (by omega), if_neg (by omega)]
        have s1 : wr.cell? ⟨Nb, k * 3 + 1, none⟩ = some (.int .i64 0) := by rw [hA.rn.cell, filled_get _ _ (by omega), if_neg (by omega)]
        have s2 : wr.cell? ⟨Nb, k * 3 + 2, none⟩ = some (.int .i64 0) := by rw [hA.rn.cell, filled_get _ _ (by omega), if_neg (by omega)]
        have f0 : ∀ j, wr.frozen? ⟨Nb, j, none⟩ = false := hA.rn.frozen
        clear hA hbel c1
        go_wp2_with fail
        go_region_held3 (fun w' => w'.cell? ⟨C, 0, none⟩ = some (.slice (some ⟨Nb, 0, none⟩) n n)) (first | with_reducible exact keep3 c0 l2 a1 | go_keep) (first | (go_at_call 100; refine (chain_none _).mono ?_; rintro e w5 ⟨rfl, rfl⟩))
        go_wp2_with fail
        go_roundw
        case rel =>
          refine ⟨k + 1, by omega, by go_num, HA.out.node _, ?_⟩
          exact (bel_alloc (((HBL.out.setCell (by dsimp only; omega) _).setCell (by dsimp only; omega) _).setCell (by dsimp only; omega) _) _).drew
        case measure => simp [intOf]; omega
      · obtain rfl : k = n := by omega
        clear hA hbel c0
        go_wp2_with fail
        go_loopw [52] (fun i wr => NewRel2 w C Nb Lb k l i wr) (fun i _ => l - (intOf i).toNat)
        case atStart => exact ⟨0, Nat.zero_le _, rfl, by simpa using HA.out, HBL.out⟩
        case round =>
          clear HA HBL
          obtain ⟨m, hm, rfl, hA, hbel⟩ := hrel
          have c0 : wr.cell? ⟨C, 0, none⟩ = some (.slice (some ⟨Nb, 0, none⟩) k k) := by rw [hA.rc.cell]; rfl
          have c1 : wr.cell? ⟨C, 1, none⟩ = some (.slice (some ⟨Lb, 0, none⟩) l l) := by rw [hA.rc.cell]; rfl
          have l3 := hA.rl.lt
          have l2 := hA.rc.lt
          have a2 := hA.h2
          have HA := Lib.hid hA
          have HBL := Lib.hid hbel
          have j1 : (0 : Int) ≤ (m : Int) := by omega
          by_cases hlt2 : (m : Int) < l
          · have s0 : wr.cell? ⟨Lb, m * 3, none⟩ = some (.int .i64 0) := by rw [hA.rl.cell, filled_get _ _ (by omega), if_neg (by omega)]
            have s1 : wr.cell? ⟨Lb, m * 3 + 1, none⟩ = some (.int .i64 0) := by rw [hA.rl.cell, filled_get _ _ (by omega), if_neg (by omega)]
            have f0 : ∀ j, wr.frozen? ⟨Lb, j, none⟩ = false := hA.rl.frozen
            clear hA hbel c0
            go_wp2_with fail
            go_region_held3 (fun w' => w'.cell? ⟨C, 1, none⟩ = some (.slice (some ⟨Lb, 0, none⟩) l l)) (first | with_reducible exact keep2 c1 l2 a2 | go_keep) (first | (go_at_call 100; refine (chain_none _).mono ?_; rintro e w5 ⟨rfl, rfl⟩))
            go_wp2_with fail
            go_roundw
            case rel =>
              refine ⟨m + 1, by omega, by go_num, HA.out.list _, ?_⟩
              exact (bel_alloc ((HBL.out.setCell (by dsimp only; omega) _).setCell (by dsimp only; omega) _) _).drew
            case measure => simp [intOf]; omega
          · obtain rfl : m = l := by omega
            clear hA hbel c0 c1
            go_wp2_with fail
            go_ret
            exact ⟨C, Nb, Lb, rfl, HA.out.done h2 h1, HBL.out, b1, b2, b3⟩
  · refine post_name ?_
    intro W hW
    have hN : NewAt W (w.heap.size + 1 + 1) (w.heap.size + 1) (w.heap.size) n l 0 0 := by
      rw [hW]
      have q0 := RowAt.new ((w.alloc (.cells (filled (l * 3) 0 lfill (.int .i64 0)).toArray 127)).alloc (.cells (filled (n * 3) 0 (fun _ => .int .i64 (-1)) (.int .i64 0)).toArray 125)) 45 [.slice (some ⟨w.heap.size + 1, 0, none⟩) n n, .slice (some ⟨w.heap.size, 0, none⟩) l l]
      have q1 := ((RowAt.new w 127 (filled (l * 3) 0 lfill (.int .i64 0))).alloc (.cells (filled (n * 3) 0 (fun _ => .int .i64 (-1)) (.int .i64 0)).toArray 125)).alloc (.cells #[.slice (some ⟨w.heap.size + 1, 0, none⟩) n n, .slice (some ⟨w.heap.size, 0, none⟩) l l] 45)
      have q2 := (RowAt.new (w.alloc (.cells (filled (l * 3) 0 lfill (.int .i64 0)).toArray 127)) 125 (filled (n * 3) 0 (fun _ => .int .i64 (-1)) (.int .i64 0))).alloc (.cells #[.slice (some ⟨w.heap.size + 1, 0, none⟩) n n, .slice (some ⟨w.heap.size, 0, none⟩) l l] 45)
      simp only [World.size_alloc] at q0 q1 q2
      exact { rc := q0, rl := q1, rn := q2, h1 := by omega, h2 := by omega, h3 := by omega }
    have hB : Below w.heap.size w W := by rw [hW]; exact (by repeat (first | exact Below.refl _ _ | assumption | refine bel_drew ?_ | refine bel_drewN ?_ _ | refine bel_alloc ?_ _ | refine bel_set ?_ (by first | (dsimp only; omega) | (simp; done) | (simp; omega)) _ | refine bel_trans ?_ (by assumption)))
    clear hW
    obtain ⟨C, hC⟩ : ∃ C, w.heap.size + 1 + 1 = C := ⟨_, rfl⟩
    obtain ⟨Nb, hNb⟩ : ∃ Nb, w.heap.size + 1 = Nb := ⟨_, rfl⟩
    obtain ⟨Lb, hLb⟩ : ∃ Lb, w.heap.size = Lb := ⟨_, rfl⟩
    have b1 : w.heap.size ≤ C := by omega
    have b2 : w.heap.size ≤ Nb := by omega
    have b3 : w.heap.size ≤ Lb := by omega
    rw [hC, hNb, hLb] at hN
    rw [hC]
    rw [hNb, hLb]
    clear hC hNb hLb
    have HN := Lib.hid hN
    have HB := Lib.hid hB
    have c0 : W.cell? ⟨C, 0, none⟩ = some (.slice (some ⟨Nb, 0, none⟩) n n) := by rw [hN.rc.cell]; rfl
    clear hN hB
    go_wp2_with fail
    clear c0
    go_loopw [34] (fun i wr => NewRel1 w C Nb Lb n l i wr) (fun i _ => n - (intOf i).toNat)
    case atStart => exact ⟨0, Nat.zero_le _, rfl, by simpa using HN.out, HB.out⟩
    case round =>
      clear HN HB
      obtain ⟨k, hk, rfl, hA, hbel⟩ := hrel
      have c0 : wr.cell? ⟨C, 0, none⟩ = some (.slice (some ⟨Nb, 0, none⟩) n n) := by rw [hA.rc.cell]; rfl
      have c1 : wr.cell? ⟨C, 1, none⟩ = some (.slice (some ⟨Lb, 0, none⟩) l l) := by rw [hA.rc.cell]; rfl
      have l1 := hA.rn.lt
      have l2 := hA.rc.lt
      have a1 := hA.h1
      have HA := Lib.hid hA
      have HBL := Lib.hid hbel
      have j1 : (0 : Int) ≤ (k : Int) := by omega
      by_cases hlt : (k : Int) < n
      · have s0 : wr.cell? ⟨Nb, k * 3, none⟩ = some (.int .i64 0) := by rw [hA.rn.cell, filled_get _ _ (by omega), if_neg (by omega)]
        have s1 : wr.cell? ⟨Nb, k * 3 + 1, none⟩ = some (.int .i64 0) := by rw [hA.rn.cell, filled_get _ _ (by omega), if_neg (by omega)]
        have s2 : wr.cell? ⟨Nb, k * 3 + 2, none⟩ = some (.int .i64 0) := by rw [hA.rn.cell, filled_get _ _ (by omega), if_neg (by omega)]
        have f0 : ∀ j, wr.frozen? ⟨Nb, j, none⟩ = false := hA.rn.frozen
        clear hA hbel c1
        go_wp2_with fail
        go_region_held3 (fun w' => w'.cell? ⟨C, 0, none⟩ = some (.slice (some ⟨Nb, 0, none⟩) n n)) (first | with_reducible exact keep3 c0 l2 a1 | go_keep) (first | (go_at_call 100; refine (chain_none _).mono ?_; rintro e w5 ⟨rfl, rfl⟩))
        go_wp2_with fail
        go_roundw
        case rel =>
          refine ⟨k + 1, by omega, by go_num, HA.out.node _, ?_⟩
          exact (bel_alloc (((HBL.out.setCell (by dsimp only; omega) _).setCell (by dsimp only; omega) _).setCell (by dsimp only; omega) _) _).drew
        case measure => simp [intOf]; omega
      · obtain rfl : k = n := by omega
        clear hA hbel c0
        go_wp2_with fail
        go_loopw [52] (fun i wr => NewRel2 w C Nb Lb k l i wr) (fun i _ => l - (intOf i).toNat)
        case atStart => exact ⟨0, Nat.zero_le _, rfl, by simpa using HA.out, HBL.out⟩
        case round =>
          clear HA HBL
          obtain ⟨m, hm, rfl, hA, hbel⟩ := hrel
          have c0 : wr.cell? ⟨C, 0, none⟩ = some (.slice (some ⟨Nb, 0, none⟩) k k) := by rw [hA.rc.cell]; rfl
          have c1 : wr.cell? ⟨C, 1, none⟩ = some (.slice (some ⟨Lb, 0, none⟩) l l) := by rw [hA.rc.cell]; rfl
          have l3 := hA.rl.lt
          have l2 := hA.rc.lt
          have a2 := hA.h2
          have HA := Lib.hid hA
          have HBL := Lib.hid hbel
          have j1 : (0 : Int) ≤ (m : Int) := by omega
          by_cases hlt2 : (m : Int) < l
          · have s0 : wr.cell? ⟨Lb, m * 3, none⟩ = some (.int .i64 0) := by rw [hA.rl.cell, filled_get _ _ (by omega), if_neg (by omega)]
            have s1 : wr.cell? ⟨Lb, m * 3 + 1, none⟩ = some (.int .i64 0) := by rw [hA.rl.cell, filled_get _ _ (by omega), if_neg (by omega)]
            have f0 : ∀ j, wr.frozen? ⟨Lb, j, none⟩ = false := hA.rl.frozen
            clear hA hbel c0
            go_wp2_with fail
            go_region_held3 (fun w' => w'.cell? ⟨C, 1, none⟩ = some (.slice (some ⟨Lb, 0, none⟩) l l)) (first | with_reducible exact keep2 c1 l2 a2 | go_keep) (first | (go_at_call 100; refine (chain_none _).mono ?_; rintro e w5 ⟨rfl, rfl⟩))
            go_wp2_with fail
            go_roundw
            case rel =>
              refine ⟨m + 1, by omega, by go_num, HA.out.list _, ?_⟩
              exact (bel_alloc ((HBL.out.setCell (by dsimp only; omega) _).setCell (by dsimp only; omega) _) _).drew
            case measure => simp [intOf]; omega
          · obtain rfl : m = l := by omega
            clear hA hbel c0 c1
            go_wp2_with fail
            go_ret
            exact ⟨C, Nb, Lb, rfl, HA.out.done h2 h1, HBL.out, b1, b2, b3⟩
end Go.Proofs.Ytdhcmnbajkpjiaa
