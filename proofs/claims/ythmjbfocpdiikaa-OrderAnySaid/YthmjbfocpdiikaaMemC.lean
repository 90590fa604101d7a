/-
  order.taken's next.
-/
import Derived.Test.YthmjbfocpdiikaaMemA
import Derived.Test.YthmjbfocpdiikaaPlainMem2
import Derived.Test.YthmjbfocpdiikaaReg
namespace Go.Proofs.Ythmjbfocpdiikaa
open Go.RowKit
set_option linter.unusedVariables false
set_option linter.unusedSimpArgs false
attribute [local go_sem] drewN_alloc drewN_setCell

def nextI (f : Int) (l : List PO.Mem) (done : List Nat) : Int := match PO.next f l done with | some i => (i : Int) | none => -1
def NextRel (w : World) (l : List PO.Mem) (f : Int) (done : List Nat) (n : Nat) (i : Value) (wr : World) : Prop :=
  ∃ k : Nat, k ≤ n ∧ i = .int .i64 k ∧ (∀ j, j < k → j ∈ done ∨ f < PO.need (l.getD j PO.m0)) ∧ Below w.heap.size w wr
/-- The array of bools in block d tells who is done. -/
def DoneAt (w : World) (d n : Nat) (done : List Nat) : Prop := ∀ j, j < n → w.cell? ⟨d, j, none⟩ = some (.bool (decide (j ∈ done)))

set_option maxRecDepth 100000 in
set_option maxHeartbeats 8000000 in
theorem taken_next {A : Option Addr} {n : Nat} {l : List PO.Mem} (c lb db fb d : Nat) (f : Int) (done : List Nat) {w : World} (h : MemAt w A n l)
    (cl : w.cell? ⟨lb, 0, none⟩ = some (.slice A n c)) (cd : w.cell? ⟨db, 0, none⟩ = some (.slice (some ⟨d, 0, none⟩) n n)) (cf : w.cell? ⟨fb, 0, none⟩ = some (.int .i64 f)) (hd : DoneAt w d n done) :
    Calls Try.prog 95 #[.pointer (some ⟨lb, 0, none⟩), .pointer (some ⟨db, 0, none⟩), .pointer (some ⟨fb, 0, none⟩)] w fun e w' => e = .returned (.int .i64 (nextI f l done)) ∧ Below w.heap.size w w' := by
  obtain ⟨R, hR⟩ : ∃ R, nextI f l done = R := ⟨_, rfl⟩
  rw [hR]
  have HR := Lib.hid hR
  have HX := Lib.hid h.1
  have HN := h.2.1
  have HB := Lib.hid (fun k (hk : k < n) => h.bd hk)
  have HC := Lib.hid h.2.2.2
  have HD := Lib.hid hd
  have sl := World.block_lt_of_cell? _ _ cl
  have sd := World.block_lt_of_cell? _ _ cd
  have sf := World.block_lt_of_cell? _ _ cf
  dsimp only at sl sd sf
  have CD := Lib.hid cd
  have CF := Lib.hid cf
  clear hR h hd cd cf
  go_enter Try.func95, Try.ntmps95
  go_wp2_with fail
  go_loopw [8] (fun i wr => NextRel w l f done n i wr) (fun i _ => n - (intOf i).toNat)
  case atStart => exact ⟨0, Nat.zero_le _, rfl, fun j hj => absurd hj (by omega), Below.refl _ _⟩
  case round =>
    obtain ⟨k, hk, rfl, hnot, hbel⟩ := hrel
    have HNOT := Lib.hid hnot
    clear hnot
    have j1 : (0 : Int) ≤ (k : Int) := by omega
    by_cases hlt : (k : Int) < n
    · obtain ⟨b, off, rfl, hb, hcs⟩ := HC.out (by omega)
      obtain ⟨x0, x1, x2, x3⟩ := (hcs k (by omega)).keep hbel hb
      have bd := HB.out k (by omega)
      have hkl : k < l.length := by rw [HX.out]; omega
      obtain ⟨m, hm⟩ : ∃ m, l.getD k PO.m0 = m := ⟨_, rfl⟩
      rw [hm] at x0 x1 x2 x3 bd
      have HM := Lib.hid hm
      have KN := fun W => account_Need m.2.1 m.2.2.1 m.2.2.2 W bd.2.1 bd.2.2.1 bd.2.2.2
      have dk := HD.out k (by omega)
      have sdd := World.block_lt_of_cell? _ _ dk
      dsimp only at sdd
      clear hm hcs bd
      by_cases hin : k ∈ done
      · have HE : Hid (∀ j, j < k + 1 → j ∈ done ∨ f < PO.need (l.getD j PO.m0)) := Lib.hid (fun j hj => by
          rcases Nat.lt_or_ge j k with h1 | h1
          · exact HNOT.out j h1
          · obtain rfl : j = k := by omega
            exact .inl hin)
        rw [decide_eq_true hin] at dk
        clear hin
        go_wp2_with fail
        have hbV : Below wr.heap.size wr (wr.alloc (.cells #[.int .i64 m.1, .int .i64 m.2.1, .int .i64 m.2.2.1, .int .i64 m.2.2.2] 34)) := bel_alloc (Below.refl _ _) _
        obtain ⟨V, hV⟩ : ∃ V, (wr.alloc (.cells #[.int .i64 m.1, .int .i64 m.2.1, .int .i64 m.2.2.1, .int .i64 m.2.2.2] 34)) = V := ⟨_, rfl⟩
        have hS : Hid (∀ W : World, Below V.heap.size V W → (fun W : World => W.cell? ⟨db, 0, none⟩ = some (.slice (some ⟨d, 0, none⟩) n n) ∧ W.cell? ⟨d, k, none⟩ = some (.bool true) ∧ W.cell? ⟨fb, 0, none⟩ = some (.int .i64 f) ∧ W.cell? ⟨wr.heap.size, 1, none⟩ = some (.int .i64 m.2.1) ∧ W.cell? ⟨wr.heap.size, 2, none⟩ = some (.int .i64 m.2.2.1) ∧ W.cell? ⟨wr.heap.size, 3, none⟩ = some (.int .i64 m.2.2.2)) W) := Lib.hid (fun W hW => by
          have q : wr.heap.size < V.heap.size := by rw [← hV]; simp
          have hs := hbel.size
          have hbw := bel_trans hbel (hV ▸ hbV)
          refine ⟨(hW.cell (show db < V.heap.size by omega)).trans ((hbw.cell sd).trans CD.out), (hW.cell (show d < V.heap.size by omega)).trans ((hbw.cell sdd).trans dk), (hW.cell (show fb < V.heap.size by omega)).trans ((hbw.cell sf).trans CF.out), ?_, ?_, ?_⟩
          all_goals (refine (hW.cell (show wr.heap.size < V.heap.size by omega)).trans ?_; rw [← hV]; simp [go_sem]))
        rw [hV] at hbV ⊢
        refine wp_region_held_drew (S := (fun W : World => W.cell? ⟨db, 0, none⟩ = some (.slice (some ⟨d, 0, none⟩) n n) ∧ W.cell? ⟨d, k, none⟩ = some (.bool true) ∧ W.cell? ⟨fb, 0, none⟩ = some (.int .i64 f) ∧ W.cell? ⟨wr.heap.size, 1, none⟩ = some (.int .i64 m.2.1) ∧ W.cell? ⟨wr.heap.size, 2, none⟩ = some (.int .i64 m.2.2.1) ∧ W.cell? ⟨wr.heap.size, 3, none⟩ = some (.int .i64 m.2.2.2))) (by kernel_rfl) ?_ (fun hHeld => ?_)
        focus ((try dsimp only); exact hS.out _ (by repeat (first | exact Below.refl _ _ | assumption | refine bel_drew ?_ | refine bel_alloc ?_ _ | refine bel_trans ?_ (by assumption))))
        refine tk_yes 0 (v := ?_) rfl (by kernel_rfl) (by kernel_rfl) (by kernel_rfl) (fun _ _ _ h => h) (by kernel_rfl) (by assumption) ?_ ?_; rotate_left; (focus (intro w hSw; (try dsimp only at hSw); go_simp; (first | done | (with_reducible rfl)))); (try simp only [Act.put, List.setIfInBounds_toArray, List.set_cons_zero, List.set_cons_succ])
        refine tk_yes 1 (v := ?_) rfl (by kernel_rfl) (by kernel_rfl) (by kernel_rfl) (fun _ _ _ h => h) (by kernel_rfl) (by assumption) ?_ ?_; rotate_left; (focus (intro w hSw; (try dsimp only at hSw); go_simp; (first | done | (with_reducible rfl)))); (try simp only [Act.put, List.setIfInBounds_toArray, List.set_cons_zero, List.set_cons_succ])
        refine tk_yes 2 (v := ?_) rfl (by kernel_rfl) (by kernel_rfl) (by kernel_rfl) (fun _ _ _ h => h) (by kernel_rfl) (by assumption) ?_ ?_; rotate_left; (focus (intro w hSw; (try dsimp only at hSw); go_simp; (first | done | (with_reducible rfl)))); (try simp only [Act.put, List.setIfInBounds_toArray, List.set_cons_zero, List.set_cons_succ])
        refine tk_yes 3 (v := ?_) rfl (by kernel_rfl) (by kernel_rfl) (by kernel_rfl) (fun _ _ _ h => h) (by kernel_rfl) (by assumption) ?_ ?_; rotate_left; (focus (intro w hSw; (try dsimp only at hSw); go_simp; (first | done | (with_reducible rfl)))); (try simp only [Act.put, List.setIfInBounds_toArray, List.set_cons_zero, List.set_cons_succ])
        refine tk_yes 4 (v := ?_) rfl (by kernel_rfl) (by kernel_rfl) (by kernel_rfl) (fun _ _ _ h => h) (by kernel_rfl) (by assumption) ?_ ?_; rotate_left; (focus (intro w hSw; (try dsimp only at hSw); go_simp; (first | done | (with_reducible rfl)))); (try simp only [Act.put, List.setIfInBounds_toArray, List.set_cons_zero, List.set_cons_succ])
        refine tk_yes 5 (v := ?_) rfl (by kernel_rfl) (by kernel_rfl) (by kernel_rfl) (fun _ _ _ h => h) (by kernel_rfl) (by assumption) ?_ ?_; rotate_left; (focus (intro w hSw; (try dsimp only at hSw); go_simp; (first | done | (with_reducible rfl)))); (try simp only [Act.put, List.setIfInBounds_toArray, List.set_cons_zero, List.set_cons_succ])
        refine tk_no 6 rfl (by kernel_rfl) (by kernel_rfl) (by kernel_rfl) (fun _ _ _ h => h) (by kernel_rfl) (by assumption) ?_; (try simp only [Act.put, List.setIfInBounds_toArray, List.set_cons_zero, List.set_cons_succ])
        refine tk_no 7 rfl (by kernel_rfl) (by kernel_rfl) (by kernel_rfl) (fun _ _ _ h => h) (by kernel_rfl) (by assumption) ?_; (try simp only [Act.put, List.setIfInBounds_toArray, List.set_cons_zero, List.set_cons_succ])
        refine tk_no 9 rfl (by kernel_rfl) (by kernel_rfl) (by kernel_rfl) (fun _ _ _ h => h) (by kernel_rfl) (by assumption) ?_; (try simp only [Act.put, List.setIfInBounds_toArray, List.set_cons_zero, List.set_cons_succ])
        refine tk_no 8 rfl (by kernel_rfl) (by kernel_rfl) (by kernel_rfl) (fun _ _ _ h => h) (by kernel_rfl) (by assumption) ?_; (try simp only [Act.put, List.setIfInBounds_toArray, List.set_cons_zero, List.set_cons_succ])
        refine tk_no 10 rfl (by kernel_rfl) (by kernel_rfl) (by kernel_rfl) (fun _ _ _ h => h) (by kernel_rfl) (by assumption) ?_; (try simp only [Act.put, List.setIfInBounds_toArray, List.set_cons_zero, List.set_cons_succ])
        refine tk_yes 11 (v := ?_) rfl (by kernel_rfl) (by kernel_rfl) (by kernel_rfl) (fun _ _ _ h => h) (by kernel_rfl) (by assumption) ?_ ?_; rotate_left; (focus (intro w hSw; (try dsimp only at hSw); go_simp; (first | done | (with_reducible rfl)))); (try simp only [Act.put, List.setIfInBounds_toArray, List.set_cons_zero, List.set_cons_succ])
        refine wpAnyH_done (by kernel_rfl) ?_ _
        go_wp2_with fail
        go_roundw
        case rel => exact ⟨k + 1, by omega, by go_num, HE.out, (by repeat (first | exact Below.refl _ _ | assumption | refine bel_drew ?_ | refine bel_drewN ?_ _ | refine bel_alloc ?_ _ | refine bel_set ?_ (by first | (dsimp only; omega) | (simp; done) | (simp; omega)) _ | refine bel_trans ?_ (by assumption)))⟩
        case measure => simp [intOf]; omega
      · rw [decide_eq_false hin] at dk
        by_cases hne : PO.need m ≤ f
        · have HE : Hid ((k : Int) = R) := Lib.hid (by
            rw [← HR.out]
            unfold nextI
            rw [PO.next_some.2 ⟨hkl, hin, by rw [HM.out]; exact hne, HNOT.out⟩])
          have hne' : PA.need m.2.1 m.2.2.1 m.2.2.2 ≤ f := hne
          generalize PA.need m.2.1 m.2.2.1 m.2.2.2 = nd at *
          have g1 : decide (nd ≤ f) = true := decide_eq_true hne'
          replace KN := Lib.hid KN
          clear hin hne hne' hkl
          go_wp2_with fail
          have hbV : Below wr.heap.size wr (wr.alloc (.cells #[.int .i64 m.1, .int .i64 m.2.1, .int .i64 m.2.2.1, .int .i64 m.2.2.2] 34)) := bel_alloc (Below.refl _ _) _
          obtain ⟨V, hV⟩ : ∃ V, (wr.alloc (.cells #[.int .i64 m.1, .int .i64 m.2.1, .int .i64 m.2.2.1, .int .i64 m.2.2.2] 34)) = V := ⟨_, rfl⟩
          have hS : Hid (∀ W : World, Below V.heap.size V W → (fun W : World => W.cell? ⟨db, 0, none⟩ = some (.slice (some ⟨d, 0, none⟩) n n) ∧ W.cell? ⟨d, k, none⟩ = some (.bool false) ∧ W.cell? ⟨fb, 0, none⟩ = some (.int .i64 f) ∧ W.cell? ⟨wr.heap.size, 1, none⟩ = some (.int .i64 m.2.1) ∧ W.cell? ⟨wr.heap.size, 2, none⟩ = some (.int .i64 m.2.2.1) ∧ W.cell? ⟨wr.heap.size, 3, none⟩ = some (.int .i64 m.2.2.2)) W) := Lib.hid (fun W hW => by
            have q : wr.heap.size < V.heap.size := by rw [← hV]; simp
            have hs := hbel.size
            have hbw := bel_trans hbel (hV ▸ hbV)
            refine ⟨(hW.cell (show db < V.heap.size by omega)).trans ((hbw.cell sd).trans CD.out), (hW.cell (show d < V.heap.size by omega)).trans ((hbw.cell sdd).trans dk), (hW.cell (show fb < V.heap.size by omega)).trans ((hbw.cell sf).trans CF.out), ?_, ?_, ?_⟩
            all_goals (refine (hW.cell (show wr.heap.size < V.heap.size by omega)).trans ?_; rw [← hV]; simp [go_sem]))
          rw [hV] at hbV ⊢
          refine wp_region_held_drew (S := (fun W : World => W.cell? ⟨db, 0, none⟩ = some (.slice (some ⟨d, 0, none⟩) n n) ∧ W.cell? ⟨d, k, none⟩ = some (.bool false) ∧ W.cell? ⟨fb, 0, none⟩ = some (.int .i64 f) ∧ W.cell? ⟨wr.heap.size, 1, none⟩ = some (.int .i64 m.2.1) ∧ W.cell? ⟨wr.heap.size, 2, none⟩ = some (.int .i64 m.2.2.1) ∧ W.cell? ⟨wr.heap.size, 3, none⟩ = some (.int .i64 m.2.2.2))) (by kernel_rfl) ?_ (fun hHeld => ?_)
          focus ((try dsimp only); exact hS.out _ (by repeat (first | exact Below.refl _ _ | assumption | refine bel_drew ?_ | refine bel_alloc ?_ _ | refine bel_trans ?_ (by assumption))))
          refine tk_yes 0 (v := ?_) rfl (by kernel_rfl) (by kernel_rfl) (by kernel_rfl) (fun _ _ _ h => h) (by kernel_rfl) (by assumption) ?_ ?_; rotate_left; (focus (intro w hSw; (try dsimp only at hSw); go_simp; (first | done | (with_reducible rfl)))); (try simp only [Act.put, List.setIfInBounds_toArray, List.set_cons_zero, List.set_cons_succ])
          refine tk_yes 1 (v := ?_) rfl (by kernel_rfl) (by kernel_rfl) (by kernel_rfl) (fun _ _ _ h => h) (by kernel_rfl) (by assumption) ?_ ?_; rotate_left; (focus (intro w hSw; (try dsimp only at hSw); go_simp; (first | done | (with_reducible rfl)))); (try simp only [Act.put, List.setIfInBounds_toArray, List.set_cons_zero, List.set_cons_succ])
          refine tk_yes 2 (v := ?_) rfl (by kernel_rfl) (by kernel_rfl) (by kernel_rfl) (fun _ _ _ h => h) (by kernel_rfl) (by assumption) ?_ ?_; rotate_left; (focus (intro w hSw; (try dsimp only at hSw); go_simp; (first | done | (with_reducible rfl)))); (try simp only [Act.put, List.setIfInBounds_toArray, List.set_cons_zero, List.set_cons_succ])
          refine tk_yes 3 (v := ?_) rfl (by kernel_rfl) (by kernel_rfl) (by kernel_rfl) (fun _ _ _ h => h) (by kernel_rfl) (by assumption) ?_ ?_; rotate_left; (focus (intro w hSw; (try dsimp only at hSw); go_simp; (first | done | (with_reducible rfl)))); (try simp only [Act.put, List.setIfInBounds_toArray, List.set_cons_zero, List.set_cons_succ])
          refine tk_yes 4 (v := ?_) rfl (by kernel_rfl) (by kernel_rfl) (by kernel_rfl) (fun _ _ _ h => h) (by kernel_rfl) (by assumption) ?_ ?_; rotate_left; (focus (intro w hSw; (try dsimp only at hSw); go_simp; (first | done | (with_reducible rfl)))); (try simp only [Act.put, List.setIfInBounds_toArray, List.set_cons_zero, List.set_cons_succ])
          refine tk_yes 5 (v := ?_) rfl (by kernel_rfl) (by kernel_rfl) (by kernel_rfl) (fun _ _ _ h => h) (by kernel_rfl) (by assumption) ?_ ?_; rotate_left; (focus (intro w hSw; (try dsimp only at hSw); go_simp; (first | done | (with_reducible rfl)))); (try simp only [Act.put, List.setIfInBounds_toArray, List.set_cons_zero, List.set_cons_succ])
          refine tk_yes 6 (v := ?_) rfl (by kernel_rfl) (by kernel_rfl) (by kernel_rfl) (fun _ _ _ h => h) (by kernel_rfl) (by assumption) ?_ ?_; rotate_left; (focus (intro w hSw; (try dsimp only at hSw); go_simp; (first | done | (with_reducible rfl)))); (try simp only [Act.put, List.setIfInBounds_toArray, List.set_cons_zero, List.set_cons_succ])
          refine tk_yes 7 (v := ?_) rfl (by kernel_rfl) (by kernel_rfl) (by kernel_rfl) (fun _ _ _ h => h) (by kernel_rfl) (by assumption) ?_ ?_; rotate_left; (focus (intro w hSw; (try dsimp only at hSw); go_simp; (first | done | (with_reducible rfl)))); (try simp only [Act.put, List.setIfInBounds_toArray, List.set_cons_zero, List.set_cons_succ])
          refine tk_yes 9 (v := ?_) rfl (by kernel_rfl) (by kernel_rfl) (by kernel_rfl) (fun _ _ _ h => h) (by kernel_rfl) (by assumption) ?_ ?_; rotate_left; (focus (intro w hSw; (try dsimp only at hSw); go_simp; (first | done | (with_reducible rfl)))); (try simp only [Act.put, List.setIfInBounds_toArray, List.set_cons_zero, List.set_cons_succ])
          refine tk_call 8 rfl (by kernel_rfl) (by kernel_rfl) (fun KW hKW => ?_); go_simp; go_at_call 72; refine (KN.out _).mono ?_; rintro e w4 ⟨rfl, h4⟩; have b4 := bel_trans (bel_drew hbV) h4; have c4 := bel_trans (bel_drew (Below.refl V.heap.size V)) h4; refine hKW.out _ _ ?_ (fun hHeld => ?_); (focus ((try dsimp only); exact hS.out _ (by repeat (first | exact Below.refl _ _ | assumption | refine bel_drew ?_ | refine bel_alloc ?_ _ | refine bel_trans ?_ (by assumption))))); clear hKW KW; (try simp only [Act.put, List.setIfInBounds_toArray, List.set_cons_zero, List.set_cons_succ])
          refine tk_yes 10 (v := ?_) rfl (by kernel_rfl) (by kernel_rfl) (by kernel_rfl) (fun _ _ _ h => h) (by kernel_rfl) (by assumption) ?_ ?_; rotate_left; (focus (intro w hSw; (try dsimp only at hSw); go_simp; (first | done | (with_reducible rfl)))); (try simp only [Act.put, List.setIfInBounds_toArray, List.set_cons_zero, List.set_cons_succ])
          refine tk_yes 11 (v := ?_) rfl (by kernel_rfl) (by kernel_rfl) (by kernel_rfl) (fun _ _ _ h => h) (by kernel_rfl) (by assumption) ?_ ?_; rotate_left; (focus (intro w hSw; (try dsimp only at hSw); go_simp; (first | done | (with_reducible rfl)))); (try simp only [Act.put, List.setIfInBounds_toArray, List.set_cons_zero, List.set_cons_succ])
          refine wpAnyH_done (by kernel_rfl) ?_ _
          go_wp2_with fail
          go_ret
          exact ⟨ret_int HE.out, (by repeat (first | exact Below.refl _ _ | assumption | refine bel_drew ?_ | refine bel_drewN ?_ _ | refine bel_alloc ?_ _ | refine bel_set ?_ (by first | (dsimp only; omega) | (simp; done) | (simp; omega)) _ | refine bel_trans ?_ (by assumption)))⟩
        · have HE : Hid (∀ j, j < k + 1 → j ∈ done ∨ f < PO.need (l.getD j PO.m0)) := Lib.hid (fun j hj => by
            rcases Nat.lt_or_ge j k with h1 | h1
            · exact HNOT.out j h1
            · obtain rfl : j = k := by omega
              exact .inr (by rw [HM.out]; omega))
          have hne' : ¬ PA.need m.2.1 m.2.2.1 m.2.2.2 ≤ f := hne
          generalize PA.need m.2.1 m.2.2.1 m.2.2.2 = nd at *
          have g1 : decide (nd ≤ f) = false := decide_eq_false hne'
          replace KN := Lib.hid KN
          clear hin hne hne' hkl
          go_wp2_with fail
          have hbV : Below wr.heap.size wr (wr.alloc (.cells #[.int .i64 m.1, .int .i64 m.2.1, .int .i64 m.2.2.1, .int .i64 m.2.2.2] 34)) := bel_alloc (Below.refl _ _) _
          obtain ⟨V, hV⟩ : ∃ V, (wr.alloc (.cells #[.int .i64 m.1, .int .i64 m.2.1, .int .i64 m.2.2.1, .int .i64 m.2.2.2] 34)) = V := ⟨_, rfl⟩
          have hS : Hid (∀ W : World, Below V.heap.size V W → (fun W : World => W.cell? ⟨db, 0, none⟩ = some (.slice (some ⟨d, 0, none⟩) n n) ∧ W.cell? ⟨d, k, none⟩ = some (.bool false) ∧ W.cell? ⟨fb, 0, none⟩ = some (.int .i64 f) ∧ W.cell? ⟨wr.heap.size, 1, none⟩ = some (.int .i64 m.2.1) ∧ W.cell? ⟨wr.heap.size, 2, none⟩ = some (.int .i64 m.2.2.1) ∧ W.cell? ⟨wr.heap.size, 3, none⟩ = some (.int .i64 m.2.2.2)) W) := Lib.hid (fun W hW => by
            have q : wr.heap.size < V.heap.size := by rw [← hV]; simp
            have hs := hbel.size
            have hbw := bel_trans hbel (hV ▸ hbV)
            refine ⟨(hW.cell (show db < V.heap.size by omega)).trans ((hbw.cell sd).trans CD.out), (hW.cell (show d < V.heap.size by omega)).trans ((hbw.cell sdd).trans dk), (hW.cell (show fb < V.heap.size by omega)).trans ((hbw.cell sf).trans CF.out), ?_, ?_, ?_⟩
            all_goals (refine (hW.cell (show wr.heap.size < V.heap.size by omega)).trans ?_; rw [← hV]; simp [go_sem]))
          rw [hV] at hbV ⊢
          refine wp_region_held_drew (S := (fun W : World => W.cell? ⟨db, 0, none⟩ = some (.slice (some ⟨d, 0, none⟩) n n) ∧ W.cell? ⟨d, k, none⟩ = some (.bool false) ∧ W.cell? ⟨fb, 0, none⟩ = some (.int .i64 f) ∧ W.cell? ⟨wr.heap.size, 1, none⟩ = some (.int .i64 m.2.1) ∧ W.cell? ⟨wr.heap.size, 2, none⟩ = some (.int .i64 m.2.2.1) ∧ W.cell? ⟨wr.heap.size, 3, none⟩ = some (.int .i64 m.2.2.2))) (by kernel_rfl) ?_ (fun hHeld => ?_)
          focus ((try dsimp only); exact hS.out _ (by repeat (first | exact Below.refl _ _ | assumption | refine bel_drew ?_ | refine bel_alloc ?_ _ | refine bel_trans ?_ (by assumption))))
          refine tk_yes 0 (v := ?_) rfl (by kernel_rfl) (by kernel_rfl) (by kernel_rfl) (fun _ _ _ h => h) (by kernel_rfl) (by assumption) ?_ ?_; rotate_left; (focus (intro w hSw; (try dsimp only at hSw); go_simp; (first | done | (with_reducible rfl)))); (try simp only [Act.put, List.setIfInBounds_toArray, List.set_cons_zero, List.set_cons_succ])
          refine tk_yes 1 (v := ?_) rfl (by kernel_rfl) (by kernel_rfl) (by kernel_rfl) (fun _ _ _ h => h) (by kernel_rfl) (by assumption) ?_ ?_; rotate_left; (focus (intro w hSw; (try dsimp only at hSw); go_simp; (first | done | (with_reducible rfl)))); (try simp only [Act.put, List.setIfInBounds_toArray, List.set_cons_zero, List.set_cons_succ])
          refine tk_yes 2 (v := ?_) rfl (by kernel_rfl) (by kernel_rfl) (by kernel_rfl) (fun _ _ _ h => h) (by kernel_rfl) (by assumption) ?_ ?_; rotate_left; (focus (intro w hSw; (try dsimp only at hSw); go_simp; (first | done | (with_reducible rfl)))); (try simp only [Act.put, List.setIfInBounds_toArray, List.set_cons_zero, List.set_cons_succ])
          refine tk_yes 3 (v := ?_) rfl (by kernel_rfl) (by kernel_rfl) (by kernel_rfl) (fun _ _ _ h => h) (by kernel_rfl) (by assumption) ?_ ?_; rotate_left; (focus (intro w hSw; (try dsimp only at hSw); go_simp; (first | done | (with_reducible rfl)))); (try simp only [Act.put, List.setIfInBounds_toArray, List.set_cons_zero, List.set_cons_succ])
          refine tk_yes 4 (v := ?_) rfl (by kernel_rfl) (by kernel_rfl) (by kernel_rfl) (fun _ _ _ h => h) (by kernel_rfl) (by assumption) ?_ ?_; rotate_left; (focus (intro w hSw; (try dsimp only at hSw); go_simp; (first | done | (with_reducible rfl)))); (try simp only [Act.put, List.setIfInBounds_toArray, List.set_cons_zero, List.set_cons_succ])
          refine tk_yes 5 (v := ?_) rfl (by kernel_rfl) (by kernel_rfl) (by kernel_rfl) (fun _ _ _ h => h) (by kernel_rfl) (by assumption) ?_ ?_; rotate_left; (focus (intro w hSw; (try dsimp only at hSw); go_simp; (first | done | (with_reducible rfl)))); (try simp only [Act.put, List.setIfInBounds_toArray, List.set_cons_zero, List.set_cons_succ])
          refine tk_yes 6 (v := ?_) rfl (by kernel_rfl) (by kernel_rfl) (by kernel_rfl) (fun _ _ _ h => h) (by kernel_rfl) (by assumption) ?_ ?_; rotate_left; (focus (intro w hSw; (try dsimp only at hSw); go_simp; (first | done | (with_reducible rfl)))); (try simp only [Act.put, List.setIfInBounds_toArray, List.set_cons_zero, List.set_cons_succ])
          refine tk_yes 7 (v := ?_) rfl (by kernel_rfl) (by kernel_rfl) (by kernel_rfl) (fun _ _ _ h => h) (by kernel_rfl) (by assumption) ?_ ?_; rotate_left; (focus (intro w hSw; (try dsimp only at hSw); go_simp; (first | done | (with_reducible rfl)))); (try simp only [Act.put, List.setIfInBounds_toArray, List.set_cons_zero, List.set_cons_succ])
          refine tk_yes 9 (v := ?_) rfl (by kernel_rfl) (by kernel_rfl) (by kernel_rfl) (fun _ _ _ h => h) (by kernel_rfl) (by assumption) ?_ ?_; rotate_left; (focus (intro w hSw; (try dsimp only at hSw); go_simp; (first | done | (with_reducible rfl)))); (try simp only [Act.put, List.setIfInBounds_toArray, List.set_cons_zero, List.set_cons_succ])
          refine tk_call 8 rfl (by kernel_rfl) (by kernel_rfl) (fun KW hKW => ?_); go_simp; go_at_call 72; refine (KN.out _).mono ?_; rintro e w4 ⟨rfl, h4⟩; have b4 := bel_trans (bel_drew hbV) h4; have c4 := bel_trans (bel_drew (Below.refl V.heap.size V)) h4; refine hKW.out _ _ ?_ (fun hHeld => ?_); (focus ((try dsimp only); exact hS.out _ (by repeat (first | exact Below.refl _ _ | assumption | refine bel_drew ?_ | refine bel_alloc ?_ _ | refine bel_trans ?_ (by assumption))))); clear hKW KW; (try simp only [Act.put, List.setIfInBounds_toArray, List.set_cons_zero, List.set_cons_succ])
          refine tk_yes 10 (v := ?_) rfl (by kernel_rfl) (by kernel_rfl) (by kernel_rfl) (fun _ _ _ h => h) (by kernel_rfl) (by assumption) ?_ ?_; rotate_left; (focus (intro w hSw; (try dsimp only at hSw); go_simp; (first | done | (with_reducible rfl)))); (try simp only [Act.put, List.setIfInBounds_toArray, List.set_cons_zero, List.set_cons_succ])
          refine tk_yes 11 (v := ?_) rfl (by kernel_rfl) (by kernel_rfl) (by kernel_rfl) (fun _ _ _ h => h) (by kernel_rfl) (by assumption) ?_ ?_; rotate_left; (focus (intro w hSw; (try dsimp only at hSw); go_simp; (first | done | (with_reducible rfl)))); (try simp only [Act.put, List.setIfInBounds_toArray, List.set_cons_zero, List.set_cons_succ])
          refine wpAnyH_done (by kernel_rfl) ?_ _
          go_wp2_with fail
          go_roundw
          case rel => exact ⟨k + 1, by omega, by go_num, HE.out, (by repeat (first | exact Below.refl _ _ | assumption | refine bel_drew ?_ | refine bel_drewN ?_ _ | refine bel_alloc ?_ _ | refine bel_set ?_ (by first | (dsimp only; omega) | (simp; done) | (simp; omega)) _ | refine bel_trans ?_ (by assumption)))⟩
          case measure => simp [intOf]; omega
    · have HE : Hid ((-1 : Int) = R) := Lib.hid (by
        rw [← HR.out]
        unfold nextI
        rw [PO.next_none (fun j hj => HNOT.out j (by rw [HX.out] at hj; omega))])
      go_wp2_with fail
      go_ret
      exact ⟨ret_int HE.out, (by repeat (first | exact Below.refl _ _ | assumption | refine bel_drew ?_ | refine bel_drewN ?_ _ | refine bel_alloc ?_ _ | refine bel_set ?_ (by first | (dsimp only; omega) | (simp; done) | (simp; omega)) _ | refine bel_trans ?_ (by assumption)))⟩
end Go.Proofs.Ythmjbfocpdiikaa
