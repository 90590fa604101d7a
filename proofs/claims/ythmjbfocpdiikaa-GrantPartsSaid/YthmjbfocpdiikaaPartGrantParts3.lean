/- Part 3 of the proof of GrantParts: lemmas, each with its conditions ahead of it. -/
import Derived.Test.YthmjbfocpdiikaaPartGrantParts2
import Derived.Laws.StructEq
import Derived.StillTailTactics
import Derived.Lib.SliceRun
/-
  Layer 29 (bank): the walk of BankSafe.
-/
namespace Go.Proofs.Ythmjbfocpdiikaa
open Go.RowKit
set_option linter.unusedVariables false
set_option linter.unusedSimpArgs false
attribute [local go_sem] drewN_alloc drewN_setCell

theorem law29_BankSafe_long (A : Option Addr) (n c : Nat) (n0 n1 k : Int) (w : World) (hn : 20 < n) :
    Calls Try.prog 3 #[.agg #[.int .i64 n0, .int .i64 n1], .slice A n c, .int .i64 k] w fun e w' => e = .returned (.bool true) ∧ Below w.heap.size w w' := by
  have K := Lib.hid law29_works
  have hn' : (20 : Int) < (n : Int) := by omega
  go_enter Try.func3, Try.ntmps3
  go_wp2_with fail
  refine (K.out _).mono ?_
  rintro e w1 ⟨rfl, h1⟩
  go_wp2_with fail
  exact bodyPost_ret (v := .bool true) (by simp [results, Try.results3, go_sem]) rfl ⟨rfl, (by repeat (first | exact Below.refl _ _ | assumption | refine bel_drew ?_ | refine bel_drewN ?_ _ | refine bel_alloc ?_ _ | refine bel_set ?_ (by first | (dsimp only; omega) | (simp; done) | (simp; omega)) _ | refine bel_trans ?_ (by assumption)))⟩

set_option maxRecDepth 100000 in
set_option maxHeartbeats 8000000 in
theorem law29_BankSafe_some {A : Option Addr} {n : Nat} {l : List PO.Mem} (c : Nat) (n0 n1 k : Int) (w : World) (h : MemAt w A n l) (hn : n ≤ 20) (b0 : -9223372036854775808 ≤ n0 ∧ n0 ≤ 9223372036854775807) (b1 : -9223372036854775808 ≤ n1 ∧ n1 ≤ 9223372036854775807) :
    Calls Try.prog 3 #[.agg #[.int .i64 n0, .int .i64 n1], .slice A n c, .int .i64 k] w fun e w' => e = .returned (.bool true) ∧ Below w.heap.size w w' := by
  obtain ⟨V, hV⟩ : ∃ V, w.alloc (.cells #[.int .i64 n0, .int .i64 n1] 22) = V := ⟨_, rfl⟩
  obtain ⟨bs, hbs⟩ : ∃ bs, w.heap.size = bs := ⟨_, rfl⟩
  have hB : Below w.heap.size w V := by rw [← hV]; exact (by repeat (first | exact Below.refl _ _ | assumption | refine bel_drew ?_ | refine bel_drewN ?_ _ | refine bel_alloc ?_ _ | refine bel_set ?_ (by first | (dsimp only; omega) | (simp; done) | (simp; omega)) _ | refine bel_trans ?_ (by assumption)))
  have hS : Hid (∀ W, Below V.heap.size V W → W.cell? ⟨bs, 0, none⟩ = some (.int .i64 n0) ∧ W.cell? ⟨bs, 1, none⟩ = some (.int .i64 n1)) := Lib.hid (fun W hW => by
    have hs : bs < V.heap.size := by rw [← hV, ← hbs]; simp
    exact ⟨(hW.cell hs).trans (by rw [← hV, ← hbs]; simp [go_sem]), (hW.cell hs).trans (by rw [← hV, ← hbs]; simp [go_sem])⟩)
  have hM := h.keep hB
  have K1 : Hid (∀ W, Below V.heap.size V W → Calls Try.prog 17 #[.int .i64 n0, .int .i64 n1, .slice A n c] W fun e W' => e = .returned (.bool (PO.bsafe n0 n1 l)) ∧ Below W.heap.size W W') := Lib.hid (fun W hW => bank_Safe c n0 n1 (hM.keep hW) (by omega) b0 b1)
  have K2 : Hid (∀ W, Below V.heap.size V W → Calls Try.prog 18 #[.int .i64 n0, .int .i64 n1, .slice A n c] W fun e W' => e = .returned (.bool (PO.bsafe n0 n1 l)) ∧ Below W.heap.size W W') := Lib.hid (fun W hW => ref29_Safe c n0 n1 (hM.keep hW) (by omega) b0 b1)
  have K3 := fun W => bank_Admit n0 k W
  generalize PO.bsafe n0 n1 l = r at *
  have hn' : decide ((20 : Int) < (n : Int)) = false := by simp; omega
  have HV := Lib.hid hV
  have HBS := Lib.hid hbs
  have HB := Lib.hid hB
  clear h hM hV hbs hB b0 b1
  by_cases h0 : 1 ≤ k
  · have g0 : decide ((1 : Int) ≤ k) = true := decide_eq_true h0
    by_cases h1 : k ≤ n0
    · have g1 : decide (k ≤ n0) = true := decide_eq_true h1
      rw [g0, g1, Bool.true_and, Bool.true_and] at K3
      replace K3 := Lib.hid K3
      go_enter Try.func3, Try.ntmps3
      go_wp2_with fail
      rw [HV.out, HBS.out]
      refine wp_region_held_drew (S := (fun W : World => W.cell? ⟨bs, 0, none⟩ = some (.int .i64 n0) ∧ W.cell? ⟨bs, 1, none⟩ = some (.int .i64 n1))) (by kernel_rfl) ?_ (fun hHeld => ?_)
      focus ((try dsimp only); exact hS.out _ (by repeat (first | exact Below.refl _ _ | assumption | refine bel_drew ?_ | refine bel_trans ?_ (by assumption))))
      refine tk_yes 0 (v := ?_) rfl (by kernel_rfl) (by kernel_rfl) (by kernel_rfl) (fun _ _ _ h => h) (by kernel_rfl) (by assumption) ?_ ?_; rotate_left; (focus (intro w hSw; (try dsimp only at hSw); go_simp; (first | done | (with_reducible rfl)))); (try simp only [Act.put, List.setIfInBounds_toArray, List.set_cons_zero, List.set_cons_succ])
      refine tk_yes 1 (v := ?_) rfl (by kernel_rfl) (by kernel_rfl) (by kernel_rfl) (fun _ _ _ h => h) (by kernel_rfl) (by assumption) ?_ ?_; rotate_left; (focus (intro w hSw; (try dsimp only at hSw); go_simp; (first | done | (with_reducible rfl)))); (try simp only [Act.put, List.setIfInBounds_toArray, List.set_cons_zero, List.set_cons_succ])
      refine tk_yes 2 (v := ?_) rfl (by kernel_rfl) (by kernel_rfl) (by kernel_rfl) (fun _ _ _ h => h) (by kernel_rfl) (by assumption) ?_ ?_; rotate_left; (focus (intro w hSw; (try dsimp only at hSw); go_simp; (first | done | (with_reducible rfl)))); (try simp only [Act.put, List.setIfInBounds_toArray, List.set_cons_zero, List.set_cons_succ])
      refine tk_yes 3 (v := ?_) rfl (by kernel_rfl) (by kernel_rfl) (by kernel_rfl) (fun _ _ _ h => h) (by kernel_rfl) (by assumption) ?_ ?_; rotate_left; (focus (intro w hSw; (try dsimp only at hSw); go_simp; (first | done | (with_reducible rfl)))); (try simp only [Act.put, List.setIfInBounds_toArray, List.set_cons_zero, List.set_cons_succ])
      refine tk_yes 4 (v := ?_) rfl (by kernel_rfl) (by kernel_rfl) (by kernel_rfl) (fun _ _ _ h => h) (by kernel_rfl) (by assumption) ?_ ?_; rotate_left; (focus (intro w hSw; (try dsimp only at hSw); go_simp; (first | done | (with_reducible rfl)))); (try simp only [Act.put, List.setIfInBounds_toArray, List.set_cons_zero, List.set_cons_succ])
      refine tk_yes 6 (v := ?_) rfl (by kernel_rfl) (by kernel_rfl) (by kernel_rfl) (fun _ _ _ h => h) (by kernel_rfl) (by assumption) ?_ ?_; rotate_left; (focus (intro w hSw; (try dsimp only at hSw); go_simp; (first | done | (with_reducible rfl)))); (try simp only [Act.put, List.setIfInBounds_toArray, List.set_cons_zero, List.set_cons_succ])
      refine tk_yes 7 (v := ?_) rfl (by kernel_rfl) (by kernel_rfl) (by kernel_rfl) (fun _ _ _ h => h) (by kernel_rfl) (by assumption) ?_ ?_; rotate_left; (focus (intro w hSw; (try dsimp only at hSw); go_simp; (first | done | (with_reducible rfl)))); (try simp only [Act.put, List.setIfInBounds_toArray, List.set_cons_zero, List.set_cons_succ])
      refine tk_yes 8 (v := ?_) rfl (by kernel_rfl) (by kernel_rfl) (by kernel_rfl) (fun _ _ _ h => h) (by kernel_rfl) (by assumption) ?_ ?_; rotate_left; (focus (intro w hSw; (try dsimp only at hSw); go_simp; (first | done | (with_reducible rfl)))); (try simp only [Act.put, List.setIfInBounds_toArray, List.set_cons_zero, List.set_cons_succ])
      refine tk_yes 9 (v := ?_) rfl (by kernel_rfl) (by kernel_rfl) (by kernel_rfl) (fun _ _ _ h => h) (by kernel_rfl) (by assumption) ?_ ?_; rotate_left; (focus (intro w hSw; (try dsimp only at hSw); go_simp; (first | done | (with_reducible rfl)))); (try simp only [Act.put, List.setIfInBounds_toArray, List.set_cons_zero, List.set_cons_succ])
      refine tk_yes 10 (v := ?_) rfl (by kernel_rfl) (by kernel_rfl) (by kernel_rfl) (fun _ _ _ h => h) (by kernel_rfl) (by assumption) ?_ ?_; rotate_left; (focus (intro w hSw; (try dsimp only at hSw); go_simp; (first | done | (with_reducible rfl)))); (try simp only [Act.put, List.setIfInBounds_toArray, List.set_cons_zero, List.set_cons_succ])
      refine tk_call 5 rfl (by kernel_rfl) (by kernel_rfl) (fun KW hKW => ?_); go_simp; go_at_call 17; refine (K1.out _ (by repeat (first | exact Below.refl _ _ | assumption | refine bel_drew ?_ | refine bel_trans ?_ (by assumption)))).mono ?_; rintro e u1 ⟨rfl, d1⟩; refine hKW.out _ _ ?_ (fun hHeld => ?_); (focus ((try dsimp only); exact hS.out _ (by repeat (first | exact Below.refl _ _ | assumption | refine bel_drew ?_ | refine bel_trans ?_ (by assumption))))); clear hKW KW; (try simp only [Act.put, List.setIfInBounds_toArray, List.set_cons_zero, List.set_cons_succ])
      refine tk_call 11 rfl (by kernel_rfl) (by kernel_rfl) (fun KW hKW => ?_); go_simp; go_at_call 18; refine (K2.out _ (by repeat (first | exact Below.refl _ _ | assumption | refine bel_drew ?_ | refine bel_trans ?_ (by assumption)))).mono ?_; rintro e u2 ⟨rfl, d2⟩; refine hKW.out _ _ ?_ (fun hHeld => ?_); (focus ((try dsimp only); exact hS.out _ (by repeat (first | exact Below.refl _ _ | assumption | refine bel_drew ?_ | refine bel_trans ?_ (by assumption))))); clear hKW KW; (try simp only [Act.put, List.setIfInBounds_toArray, List.set_cons_zero, List.set_cons_succ])
      refine tk_yes 12 (v := ?_) rfl (by kernel_rfl) (by kernel_rfl) (by kernel_rfl) (fun _ _ _ h => h) (by kernel_rfl) (by assumption) ?_ ?_; rotate_left; (focus (intro w hSw; (try dsimp only at hSw); go_simp; (first | done | (with_reducible rfl)))); (try simp only [Act.put, List.setIfInBounds_toArray, List.set_cons_zero, List.set_cons_succ])
      refine tk_yes 13 (v := ?_) rfl (by kernel_rfl) (by kernel_rfl) (by kernel_rfl) (fun _ _ _ h => h) (by kernel_rfl) (by assumption) ?_ ?_; rotate_left; (focus (intro w hSw; (try dsimp only at hSw); go_simp; (first | done | (with_reducible rfl)))); (try simp only [Act.put, List.setIfInBounds_toArray, List.set_cons_zero, List.set_cons_succ])
      refine tk_yes 14 (v := ?_) rfl (by kernel_rfl) (by kernel_rfl) (by kernel_rfl) (fun _ _ _ h => h) (by kernel_rfl) (by assumption) ?_ ?_; rotate_left; (focus (intro w hSw; (try dsimp only at hSw); go_simp; (first | done | (with_reducible rfl)))); (try simp only [Act.put, List.setIfInBounds_toArray, List.set_cons_zero, List.set_cons_succ])
      refine tk_yes 15 (v := ?_) rfl (by kernel_rfl) (by kernel_rfl) (by kernel_rfl) (fun _ _ _ h => h) (by kernel_rfl) (by assumption) ?_ ?_; rotate_left; (focus (intro w hSw; (try dsimp only at hSw); go_simp; (first | done | (with_reducible rfl)))); (try simp only [Act.put, List.setIfInBounds_toArray, List.set_cons_zero, List.set_cons_succ])
      refine tk_yes 16 (v := ?_) rfl (by kernel_rfl) (by kernel_rfl) (by kernel_rfl) (fun _ _ _ h => h) (by kernel_rfl) (by assumption) ?_ ?_; rotate_left; (focus (intro w hSw; (try dsimp only at hSw); go_simp; (first | done | (with_reducible rfl)))); (try simp only [Act.put, List.setIfInBounds_toArray, List.set_cons_zero, List.set_cons_succ])
      refine tk_yes 18 (v := ?_) rfl (by kernel_rfl) (by kernel_rfl) (by kernel_rfl) (fun _ _ _ h => h) (by kernel_rfl) (by assumption) ?_ ?_; rotate_left; (focus (intro w hSw; (try dsimp only at hSw); go_simp; (first | done | (with_reducible rfl)))); (try simp only [Act.put, List.setIfInBounds_toArray, List.set_cons_zero, List.set_cons_succ])
      refine tk_yes 19 (v := ?_) rfl (by kernel_rfl) (by kernel_rfl) (by kernel_rfl) (fun _ _ _ h => h) (by kernel_rfl) (by assumption) ?_ ?_; rotate_left; (focus (intro w hSw; (try dsimp only at hSw); go_simp; (first | done | (with_reducible rfl)))); (try simp only [Act.put, List.setIfInBounds_toArray, List.set_cons_zero, List.set_cons_succ])
      refine tk_call 17 rfl (by kernel_rfl) (by kernel_rfl) (fun KW hKW => ?_); go_simp; go_at_call 19; refine (K3.out _).mono ?_; rintro e u3 ⟨rfl, rfl⟩; refine hKW.out _ _ ?_ (fun hHeld => ?_); (focus ((try dsimp only); exact hS.out _ (by repeat (first | exact Below.refl _ _ | assumption | refine bel_drew ?_ | refine bel_trans ?_ (by assumption))))); clear hKW KW; (try simp only [Act.put, List.setIfInBounds_toArray, List.set_cons_zero, List.set_cons_succ])
      refine tk_yes 20 (v := ?_) rfl (by kernel_rfl) (by kernel_rfl) (by kernel_rfl) (fun _ _ _ h => h) (by kernel_rfl) (by assumption) ?_ ?_; rotate_left; (focus (intro w hSw; (try dsimp only at hSw); go_simp; (first | done | (with_reducible rfl)))); (try simp only [Act.put, List.setIfInBounds_toArray, List.set_cons_zero, List.set_cons_succ])
      refine tk_yes 21 (v := ?_) rfl (by kernel_rfl) (by kernel_rfl) (by kernel_rfl) (fun _ _ _ h => h) (by kernel_rfl) (by assumption) ?_ ?_; rotate_left; (focus (intro w hSw; (try dsimp only at hSw); go_simp; (first | done | (with_reducible rfl)))); (try simp only [Act.put, List.setIfInBounds_toArray, List.set_cons_zero, List.set_cons_succ])
      refine tk_yes 22 (v := ?_) rfl (by kernel_rfl) (by kernel_rfl) (by kernel_rfl) (fun _ _ _ h => h) (by kernel_rfl) (by assumption) ?_ ?_; rotate_left; (focus (intro w hSw; (try dsimp only at hSw); go_simp; (first | done | (with_reducible rfl)))); (try simp only [Act.put, List.setIfInBounds_toArray, List.set_cons_zero, List.set_cons_succ])
      refine tk_yes 23 (v := ?_) rfl (by kernel_rfl) (by kernel_rfl) (by kernel_rfl) (fun _ _ _ h => h) (by kernel_rfl) (by assumption) ?_ ?_; rotate_left; (focus (intro w hSw; (try dsimp only at hSw); go_simp; (first | done | (with_reducible rfl)))); (try simp only [Act.put, List.setIfInBounds_toArray, List.set_cons_zero, List.set_cons_succ])
      refine tk_yes 24 (v := ?_) rfl (by kernel_rfl) (by kernel_rfl) (by kernel_rfl) (fun _ _ _ h => h) (by kernel_rfl) (by assumption) ?_ ?_; rotate_left; (focus (intro w hSw; (try dsimp only at hSw); go_simp; (first | done | (with_reducible rfl)))); (try simp only [Act.put, List.setIfInBounds_toArray, List.set_cons_zero, List.set_cons_succ])
      refine tk_yes 25 (v := ?_) rfl (by kernel_rfl) (by kernel_rfl) (by kernel_rfl) (fun _ _ _ h => h) (by kernel_rfl) (by assumption) ?_ ?_; rotate_left; (focus (intro w hSw; (try dsimp only at hSw); go_simp; (first | done | (with_reducible rfl)))); (try simp only [Act.put, List.setIfInBounds_toArray, List.set_cons_zero, List.set_cons_succ])
      refine tk_yes 26 (v := ?_) rfl (by kernel_rfl) (by kernel_rfl) (by kernel_rfl) (fun _ _ _ h => h) (by kernel_rfl) (by assumption) ?_ ?_; rotate_left; (focus (intro w hSw; (try dsimp only at hSw); go_simp; (first | done | (with_reducible rfl)))); (try simp only [Act.put, List.setIfInBounds_toArray, List.set_cons_zero, List.set_cons_succ])
      refine tk_yes 27 (v := ?_) rfl (by kernel_rfl) (by kernel_rfl) (by kernel_rfl) (fun _ _ _ h => h) (by kernel_rfl) (by assumption) ?_ ?_; rotate_left; (focus (intro w hSw; (try dsimp only at hSw); go_simp; (first | done | (with_reducible rfl)))); (try simp only [Act.put, List.setIfInBounds_toArray, List.set_cons_zero, List.set_cons_succ])
      refine tk_yes 28 (v := ?_) rfl (by kernel_rfl) (by kernel_rfl) (by kernel_rfl) (fun _ _ _ h => h) (by kernel_rfl) (by assumption) ?_ ?_; rotate_left; (focus (intro w hSw; (try dsimp only at hSw); go_simp; (first | done | (with_reducible rfl)))); (try simp only [Act.put, List.setIfInBounds_toArray, List.set_cons_zero, List.set_cons_succ])
      refine tk_yes 29 (v := ?_) rfl (by kernel_rfl) (by kernel_rfl) (by kernel_rfl) (fun _ _ _ h => h) (by kernel_rfl) (by assumption) ?_ ?_; rotate_left; (focus (intro w hSw; (try dsimp only at hSw); go_simp; (first | done | (with_reducible rfl)))); (try simp only [Act.put, List.setIfInBounds_toArray, List.set_cons_zero, List.set_cons_succ])
      refine tk_yes 30 (v := ?_) rfl (by kernel_rfl) (by kernel_rfl) (by kernel_rfl) (fun _ _ _ h => h) (by kernel_rfl) (by assumption) ?_ ?_; rotate_left; (focus (intro w hSw; (try dsimp only at hSw); go_simp; (first | done | (with_reducible rfl)))); (try simp only [Act.put, List.setIfInBounds_toArray, List.set_cons_zero, List.set_cons_succ])
      refine tk_yes 31 (v := ?_) rfl (by kernel_rfl) (by kernel_rfl) (by kernel_rfl) (fun _ _ _ h => h) (by kernel_rfl) (by assumption) ?_ ?_; rotate_left; (focus (intro w hSw; (try dsimp only at hSw); go_simp; (first | done | (with_reducible rfl)))); (try simp only [Act.put, List.setIfInBounds_toArray, List.set_cons_zero, List.set_cons_succ])
      refine tk_yes 32 (v := ?_) rfl (by kernel_rfl) (by kernel_rfl) (by kernel_rfl) (fun _ _ _ h => h) (by kernel_rfl) (by assumption) ?_ ?_; rotate_left; (focus (intro w hSw; (try dsimp only at hSw); go_simp; (first | done | (with_reducible rfl)))); (try simp only [Act.put, List.setIfInBounds_toArray, List.set_cons_zero, List.set_cons_succ])
      refine tk_yes 33 (v := ?_) rfl (by kernel_rfl) (by kernel_rfl) (by kernel_rfl) (fun _ _ _ h => h) (by kernel_rfl) (by assumption) ?_ ?_; rotate_left; (focus (intro w hSw; (try dsimp only at hSw); go_simp; (first | done | (with_reducible rfl)))); (try simp only [Act.put, List.setIfInBounds_toArray, List.set_cons_zero, List.set_cons_succ])
      refine tk_call 34 rfl (by kernel_rfl) (by kernel_rfl) (fun KW hKW => ?_); go_simp; go_at_call 16; refine (law29_works _).mono ?_; rintro e u4 ⟨rfl, d4⟩; refine hKW.out _ _ ?_ (fun hHeld => ?_); (focus ((try dsimp only); exact hS.out _ (by repeat (first | exact Below.refl _ _ | assumption | refine bel_drew ?_ | refine bel_trans ?_ (by assumption))))); clear hKW KW; (try simp only [Act.put, List.setIfInBounds_toArray, List.set_cons_zero, List.set_cons_succ])
      refine tk_yes 35 (v := ?_) rfl (by kernel_rfl) (by kernel_rfl) (by kernel_rfl) (fun _ _ _ h => h) (by kernel_rfl) (by assumption) ?_ ?_; rotate_left; (focus (intro w hSw; (try dsimp only at hSw); go_simp; (first | done | (with_reducible rfl)))); (try simp only [Act.put, List.setIfInBounds_toArray, List.set_cons_zero, List.set_cons_succ])
      refine tk_yes 36 (v := ?_) rfl (by kernel_rfl) (by kernel_rfl) (by kernel_rfl) (fun _ _ _ h => h) (by kernel_rfl) (by assumption) ?_ ?_; rotate_left; (focus (intro w hSw; (try dsimp only at hSw); go_simp; (first | done | (with_reducible rfl)))); (try simp only [Act.put, List.setIfInBounds_toArray, List.set_cons_zero, List.set_cons_succ])
      refine wpAnyH_done (by kernel_rfl) ?_ _
      go_wp2_with fail
      exact bodyPost_ret (v := .bool true) (by simp [results, Try.results3, go_sem]) rfl ⟨rfl, bel_trans' HB.out (bel_trans (bel_trans (bel_trans (bel_drew (Below.refl V.heap.size V)) d1) d2) d4) HB.out.size⟩
    · have g1 : decide (k ≤ n0) = false := decide_eq_false h1
      rw [g0, g1, Bool.true_and, Bool.false_and] at K3
      replace K3 := Lib.hid K3
      go_enter Try.func3, Try.ntmps3
      go_wp2_with fail
      rw [HV.out, HBS.out]
      refine wp_region_held_drew (S := (fun W : World => W.cell? ⟨bs, 0, none⟩ = some (.int .i64 n0) ∧ W.cell? ⟨bs, 1, none⟩ = some (.int .i64 n1))) (by kernel_rfl) ?_ (fun hHeld => ?_)
      focus ((try dsimp only); exact hS.out _ (by repeat (first | exact Below.refl _ _ | assumption | refine bel_drew ?_ | refine bel_trans ?_ (by assumption))))
      refine tk_yes 0 (v := ?_) rfl (by kernel_rfl) (by kernel_rfl) (by kernel_rfl) (fun _ _ _ h => h) (by kernel_rfl) (by assumption) ?_ ?_; rotate_left; (focus (intro w hSw; (try dsimp only at hSw); go_simp; (first | done | (with_reducible rfl)))); (try simp only [Act.put, List.setIfInBounds_toArray, List.set_cons_zero, List.set_cons_succ])
      refine tk_yes 1 (v := ?_) rfl (by kernel_rfl) (by kernel_rfl) (by kernel_rfl) (fun _ _ _ h => h) (by kernel_rfl) (by assumption) ?_ ?_; rotate_left; (focus (intro w hSw; (try dsimp only at hSw); go_simp; (first | done | (with_reducible rfl)))); (try simp only [Act.put, List.setIfInBounds_toArray, List.set_cons_zero, List.set_cons_succ])
      refine tk_yes 2 (v := ?_) rfl (by kernel_rfl) (by kernel_rfl) (by kernel_rfl) (fun _ _ _ h => h) (by kernel_rfl) (by assumption) ?_ ?_; rotate_left; (focus (intro w hSw; (try dsimp only at hSw); go_simp; (first | done | (with_reducible rfl)))); (try simp only [Act.put, List.setIfInBounds_toArray, List.set_cons_zero, List.set_cons_succ])
      refine tk_yes 3 (v := ?_) rfl (by kernel_rfl) (by kernel_rfl) (by kernel_rfl) (fun _ _ _ h => h) (by kernel_rfl) (by assumption) ?_ ?_; rotate_left; (focus (intro w hSw; (try dsimp only at hSw); go_simp; (first | done | (with_reducible rfl)))); (try simp only [Act.put, List.setIfInBounds_toArray, List.set_cons_zero, List.set_cons_succ])
      refine tk_yes 4 (v := ?_) rfl (by kernel_rfl) (by kernel_rfl) (by kernel_rfl) (fun _ _ _ h => h) (by kernel_rfl) (by assumption) ?_ ?_; rotate_left; (focus (intro w hSw; (try dsimp only at hSw); go_simp; (first | done | (with_reducible rfl)))); (try simp only [Act.put, List.setIfInBounds_toArray, List.set_cons_zero, List.set_cons_succ])
      refine tk_yes 6 (v := ?_) rfl (by kernel_rfl) (by kernel_rfl) (by kernel_rfl) (fun _ _ _ h => h) (by kernel_rfl) (by assumption) ?_ ?_; rotate_left; (focus (intro w hSw; (try dsimp only at hSw); go_simp; (first | done | (with_reducible rfl)))); (try simp only [Act.put, List.setIfInBounds_toArray, List.set_cons_zero, List.set_cons_succ])
      refine tk_yes 7 (v := ?_) rfl (by kernel_rfl) (by kernel_rfl) (by kernel_rfl) (fun _ _ _ h => h) (by kernel_rfl) (by assumption) ?_ ?_; rotate_left; (focus (intro w hSw; (try dsimp only at hSw); go_simp; (first | done | (with_reducible rfl)))); (try simp only [Act.put, List.setIfInBounds_toArray, List.set_cons_zero, List.set_cons_succ])
      refine tk_yes 8 (v := ?_) rfl (by kernel_rfl) (by kernel_rfl) (by kernel_rfl) (fun _ _ _ h => h) (by kernel_rfl) (by assumption) ?_ ?_; rotate_left; (focus (intro w hSw; (try dsimp only at hSw); go_simp; (first | done | (with_reducible rfl)))); (try simp only [Act.put, List.setIfInBounds_toArray, List.set_cons_zero, List.set_cons_succ])
      refine tk_yes 9 (v := ?_) rfl (by kernel_rfl) (by kernel_rfl) (by kernel_rfl) (fun _ _ _ h => h) (by kernel_rfl) (by assumption) ?_ ?_; rotate_left; (focus (intro w hSw; (try dsimp only at hSw); go_simp; (first | done | (with_reducible rfl)))); (try simp only [Act.put, List.setIfInBounds_toArray, List.set_cons_zero, List.set_cons_succ])
      refine tk_yes 10 (v := ?_) rfl (by kernel_rfl) (by kernel_rfl) (by kernel_rfl) (fun _ _ _ h => h) (by kernel_rfl) (by assumption) ?_ ?_; rotate_left; (focus (intro w hSw; (try dsimp only at hSw); go_simp; (first | done | (with_reducible rfl)))); (try simp only [Act.put, List.setIfInBounds_toArray, List.set_cons_zero, List.set_cons_succ])
      refine tk_call 5 rfl (by kernel_rfl) (by kernel_rfl) (fun KW hKW => ?_); go_simp; go_at_call 17; refine (K1.out _ (by repeat (first | exact Below.refl _ _ | assumption | refine bel_drew ?_ | refine bel_trans ?_ (by assumption)))).mono ?_; rintro e u1 ⟨rfl, d1⟩; refine hKW.out _ _ ?_ (fun hHeld => ?_); (focus ((try dsimp only); exact hS.out _ (by repeat (first | exact Below.refl _ _ | assumption | refine bel_drew ?_ | refine bel_trans ?_ (by assumption))))); clear hKW KW; (try simp only [Act.put, List.setIfInBounds_toArray, List.set_cons_zero, List.set_cons_succ])
      refine tk_call 11 rfl (by kernel_rfl) (by kernel_rfl) (fun KW hKW => ?_); go_simp; go_at_call 18; refine (K2.out _ (by repeat (first | exact Below.refl _ _ | assumption | refine bel_drew ?_ | refine bel_trans ?_ (by assumption)))).mono ?_; rintro e u2 ⟨rfl, d2⟩; refine hKW.out _ _ ?_ (fun hHeld => ?_); (focus ((try dsimp only); exact hS.out _ (by repeat (first | exact Below.refl _ _ | assumption | refine bel_drew ?_ | refine bel_trans ?_ (by assumption))))); clear hKW KW; (try simp only [Act.put, List.setIfInBounds_toArray, List.set_cons_zero, List.set_cons_succ])
      refine tk_yes 12 (v := ?_) rfl (by kernel_rfl) (by kernel_rfl) (by kernel_rfl) (fun _ _ _ h => h) (by kernel_rfl) (by assumption) ?_ ?_; rotate_left; (focus (intro w hSw; (try dsimp only at hSw); go_simp; (first | done | (with_reducible rfl)))); (try simp only [Act.put, List.setIfInBounds_toArray, List.set_cons_zero, List.set_cons_succ])
      refine tk_yes 13 (v := ?_) rfl (by kernel_rfl) (by kernel_rfl) (by kernel_rfl) (fun _ _ _ h => h) (by kernel_rfl) (by assumption) ?_ ?_; rotate_left; (focus (intro w hSw; (try dsimp only at hSw); go_simp; (first | done | (with_reducible rfl)))); (try simp only [Act.put, List.setIfInBounds_toArray, List.set_cons_zero, List.set_cons_succ])
      refine tk_yes 14 (v := ?_) rfl (by kernel_rfl) (by kernel_rfl) (by kernel_rfl) (fun _ _ _ h => h) (by kernel_rfl) (by assumption) ?_ ?_; rotate_left; (focus (intro w hSw; (try dsimp only at hSw); go_simp; (first | done | (with_reducible rfl)))); (try simp only [Act.put, List.setIfInBounds_toArray, List.set_cons_zero, List.set_cons_succ])
      refine tk_yes 15 (v := ?_) rfl (by kernel_rfl) (by kernel_rfl) (by kernel_rfl) (fun _ _ _ h => h) (by kernel_rfl) (by assumption) ?_ ?_; rotate_left; (focus (intro w hSw; (try dsimp only at hSw); go_simp; (first | done | (with_reducible rfl)))); (try simp only [Act.put, List.setIfInBounds_toArray, List.set_cons_zero, List.set_cons_succ])
      refine tk_yes 16 (v := ?_) rfl (by kernel_rfl) (by kernel_rfl) (by kernel_rfl) (fun _ _ _ h => h) (by kernel_rfl) (by assumption) ?_ ?_; rotate_left; (focus (intro w hSw; (try dsimp only at hSw); go_simp; (first | done | (with_reducible rfl)))); (try simp only [Act.put, List.setIfInBounds_toArray, List.set_cons_zero, List.set_cons_succ])
      refine tk_yes 18 (v := ?_) rfl (by kernel_rfl) (by kernel_rfl) (by kernel_rfl) (fun _ _ _ h => h) (by kernel_rfl) (by assumption) ?_ ?_; rotate_left; (focus (intro w hSw; (try dsimp only at hSw); go_simp; (first | done | (with_reducible rfl)))); (try simp only [Act.put, List.setIfInBounds_toArray, List.set_cons_zero, List.set_cons_succ])
      refine tk_yes 19 (v := ?_) rfl (by kernel_rfl) (by kernel_rfl) (by kernel_rfl) (fun _ _ _ h => h) (by kernel_rfl) (by assumption) ?_ ?_; rotate_left; (focus (intro w hSw; (try dsimp only at hSw); go_simp; (first | done | (with_reducible rfl)))); (try simp only [Act.put, List.setIfInBounds_toArray, List.set_cons_zero, List.set_cons_succ])
      refine tk_call 17 rfl (by kernel_rfl) (by kernel_rfl) (fun KW hKW => ?_); go_simp; go_at_call 19; refine (K3.out _).mono ?_; rintro e u3 ⟨rfl, rfl⟩; refine hKW.out _ _ ?_ (fun hHeld => ?_); (focus ((try dsimp only); exact hS.out _ (by repeat (first | exact Below.refl _ _ | assumption | refine bel_drew ?_ | refine bel_trans ?_ (by assumption))))); clear hKW KW; (try simp only [Act.put, List.setIfInBounds_toArray, List.set_cons_zero, List.set_cons_succ])
      refine tk_yes 20 (v := ?_) rfl (by kernel_rfl) (by kernel_rfl) (by kernel_rfl) (fun _ _ _ h => h) (by kernel_rfl) (by assumption) ?_ ?_; rotate_left; (focus (intro w hSw; (try dsimp only at hSw); go_simp; (first | done | (with_reducible rfl)))); (try simp only [Act.put, List.setIfInBounds_toArray, List.set_cons_zero, List.set_cons_succ])
      refine tk_yes 21 (v := ?_) rfl (by kernel_rfl) (by kernel_rfl) (by kernel_rfl) (fun _ _ _ h => h) (by kernel_rfl) (by assumption) ?_ ?_; rotate_left; (focus (intro w hSw; (try dsimp only at hSw); go_simp; (first | done | (with_reducible rfl)))); (try simp only [Act.put, List.setIfInBounds_toArray, List.set_cons_zero, List.set_cons_succ])
      refine tk_yes 22 (v := ?_) rfl (by kernel_rfl) (by kernel_rfl) (by kernel_rfl) (fun _ _ _ h => h) (by kernel_rfl) (by assumption) ?_ ?_; rotate_left; (focus (intro w hSw; (try dsimp only at hSw); go_simp; (first | done | (with_reducible rfl)))); (try simp only [Act.put, List.setIfInBounds_toArray, List.set_cons_zero, List.set_cons_succ])
      refine tk_yes 23 (v := ?_) rfl (by kernel_rfl) (by kernel_rfl) (by kernel_rfl) (fun _ _ _ h => h) (by kernel_rfl) (by assumption) ?_ ?_; rotate_left; (focus (intro w hSw; (try dsimp only at hSw); go_simp; (first | done | (with_reducible rfl)))); (try simp only [Act.put, List.setIfInBounds_toArray, List.set_cons_zero, List.set_cons_succ])
      refine tk_yes 24 (v := ?_) rfl (by kernel_rfl) (by kernel_rfl) (by kernel_rfl) (fun _ _ _ h => h) (by kernel_rfl) (by assumption) ?_ ?_; rotate_left; (focus (intro w hSw; (try dsimp only at hSw); go_simp; (first | done | (with_reducible rfl)))); (try simp only [Act.put, List.setIfInBounds_toArray, List.set_cons_zero, List.set_cons_succ])
      refine tk_yes 25 (v := ?_) rfl (by kernel_rfl) (by kernel_rfl) (by kernel_rfl) (fun _ _ _ h => h) (by kernel_rfl) (by assumption) ?_ ?_; rotate_left; (focus (intro w hSw; (try dsimp only at hSw); go_simp; (first | done | (with_reducible rfl)))); (try simp only [Act.put, List.setIfInBounds_toArray, List.set_cons_zero, List.set_cons_succ])
      refine tk_yes 26 (v := ?_) rfl (by kernel_rfl) (by kernel_rfl) (by kernel_rfl) (fun _ _ _ h => h) (by kernel_rfl) (by assumption) ?_ ?_; rotate_left; (focus (intro w hSw; (try dsimp only at hSw); go_simp; (first | done | (with_reducible rfl)))); (try simp only [Act.put, List.setIfInBounds_toArray, List.set_cons_zero, List.set_cons_succ])
      refine tk_no 27 rfl (by kernel_rfl) (by kernel_rfl) (by kernel_rfl) (fun _ _ _ h => h) (by kernel_rfl) (by assumption) ?_; (try simp only [Act.put, List.setIfInBounds_toArray, List.set_cons_zero, List.set_cons_succ])
      refine tk_no 28 rfl (by kernel_rfl) (by kernel_rfl) (by kernel_rfl) (fun _ _ _ h => h) (by kernel_rfl) (by assumption) ?_; (try simp only [Act.put, List.setIfInBounds_toArray, List.set_cons_zero, List.set_cons_succ])
      refine tk_no 29 rfl (by kernel_rfl) (by kernel_rfl) (by kernel_rfl) (fun _ _ _ h => h) (by kernel_rfl) (by assumption) ?_; (try simp only [Act.put, List.setIfInBounds_toArray, List.set_cons_zero, List.set_cons_succ])
      refine tk_yes 30 (v := ?_) rfl (by kernel_rfl) (by kernel_rfl) (by kernel_rfl) (fun _ _ _ h => h) (by kernel_rfl) (by assumption) ?_ ?_; rotate_left; (focus (intro w hSw; (try dsimp only at hSw); go_simp; (first | done | (with_reducible rfl)))); (try simp only [Act.put, List.setIfInBounds_toArray, List.set_cons_zero, List.set_cons_succ])
      refine tk_yes 31 (v := ?_) rfl (by kernel_rfl) (by kernel_rfl) (by kernel_rfl) (fun _ _ _ h => h) (by kernel_rfl) (by assumption) ?_ ?_; rotate_left; (focus (intro w hSw; (try dsimp only at hSw); go_simp; (first | done | (with_reducible rfl)))); (try simp only [Act.put, List.setIfInBounds_toArray, List.set_cons_zero, List.set_cons_succ])
      refine tk_yes 32 (v := ?_) rfl (by kernel_rfl) (by kernel_rfl) (by kernel_rfl) (fun _ _ _ h => h) (by kernel_rfl) (by assumption) ?_ ?_; rotate_left; (focus (intro w hSw; (try dsimp only at hSw); go_simp; (first | done | (with_reducible rfl)))); (try simp only [Act.put, List.setIfInBounds_toArray, List.set_cons_zero, List.set_cons_succ])
      refine tk_yes 33 (v := ?_) rfl (by kernel_rfl) (by kernel_rfl) (by kernel_rfl) (fun _ _ _ h => h) (by kernel_rfl) (by assumption) ?_ ?_; rotate_left; (focus (intro w hSw; (try dsimp only at hSw); go_simp; (first | done | (with_reducible rfl)))); (try simp only [Act.put, List.setIfInBounds_toArray, List.set_cons_zero, List.set_cons_succ])
      refine tk_call 34 rfl (by kernel_rfl) (by kernel_rfl) (fun KW hKW => ?_); go_simp; go_at_call 16; refine (law29_works _).mono ?_; rintro e u4 ⟨rfl, d4⟩; refine hKW.out _ _ ?_ (fun hHeld => ?_); (focus ((try dsimp only); exact hS.out _ (by repeat (first | exact Below.refl _ _ | assumption | refine bel_drew ?_ | refine bel_trans ?_ (by assumption))))); clear hKW KW; (try simp only [Act.put, List.setIfInBounds_toArray, List.set_cons_zero, List.set_cons_succ])
      refine tk_yes 35 (v := ?_) rfl (by kernel_rfl) (by kernel_rfl) (by kernel_rfl) (fun _ _ _ h => h) (by kernel_rfl) (by assumption) ?_ ?_; rotate_left; (focus (intro w hSw; (try dsimp only at hSw); go_simp; (first | done | (with_reducible rfl)))); (try simp only [Act.put, List.setIfInBounds_toArray, List.set_cons_zero, List.set_cons_succ])
      refine tk_yes 36 (v := ?_) rfl (by kernel_rfl) (by kernel_rfl) (by kernel_rfl) (fun _ _ _ h => h) (by kernel_rfl) (by assumption) ?_ ?_; rotate_left; (focus (intro w hSw; (try dsimp only at hSw); go_simp; (first | done | (with_reducible rfl)))); (try simp only [Act.put, List.setIfInBounds_toArray, List.set_cons_zero, List.set_cons_succ])
      refine wpAnyH_done (by kernel_rfl) ?_ _
      go_wp2_with fail
      exact bodyPost_ret (v := .bool true) (by simp [results, Try.results3, go_sem]) rfl ⟨rfl, bel_trans' HB.out (bel_trans (bel_trans (bel_trans (bel_drew (Below.refl V.heap.size V)) d1) d2) d4) HB.out.size⟩
  · have g0 : decide ((1 : Int) ≤ k) = false := decide_eq_false h0
    rw [g0, Bool.false_and, Bool.false_and] at K3
    replace K3 := Lib.hid K3
    go_enter Try.func3, Try.ntmps3
    go_wp2_with fail
    rw [HV.out, HBS.out]
    refine wp_region_held_drew (S := (fun W : World => W.cell? ⟨bs, 0, none⟩ = some (.int .i64 n0) ∧ W.cell? ⟨bs, 1, none⟩ = some (.int .i64 n1))) (by kernel_rfl) ?_ (fun hHeld => ?_)
    focus ((try dsimp only); exact hS.out _ (by repeat (first | exact Below.refl _ _ | assumption | refine bel_drew ?_ | refine bel_trans ?_ (by assumption))))
    refine tk_yes 0 (v := ?_) rfl (by kernel_rfl) (by kernel_rfl) (by kernel_rfl) (fun _ _ _ h => h) (by kernel_rfl) (by assumption) ?_ ?_; rotate_left; (focus (intro w hSw; (try dsimp only at hSw); go_simp; (first | done | (with_reducible rfl)))); (try simp only [Act.put, List.setIfInBounds_toArray, List.set_cons_zero, List.set_cons_succ])
    refine tk_yes 1 (v := ?_) rfl (by kernel_rfl) (by kernel_rfl) (by kernel_rfl) (fun _ _ _ h => h) (by kernel_rfl) (by assumption) ?_ ?_; rotate_left; (focus (intro w hSw; (try dsimp only at hSw); go_simp; (first | done | (with_reducible rfl)))); (try simp only [Act.put, List.setIfInBounds_toArray, List.set_cons_zero, List.set_cons_succ])
    refine tk_yes 2 (v := ?_) rfl (by kernel_rfl) (by kernel_rfl) (by kernel_rfl) (fun _ _ _ h => h) (by kernel_rfl) (by assumption) ?_ ?_; rotate_left; (focus (intro w hSw; (try dsimp only at hSw); go_simp; (first | done | (with_reducible rfl)))); (try simp only [Act.put, List.setIfInBounds_toArray, List.set_cons_zero, List.set_cons_succ])
    refine tk_yes 3 (v := ?_) rfl (by kernel_rfl) (by kernel_rfl) (by kernel_rfl) (fun _ _ _ h => h) (by kernel_rfl) (by assumption) ?_ ?_; rotate_left; (focus (intro w hSw; (try dsimp only at hSw); go_simp; (first | done | (with_reducible rfl)))); (try simp only [Act.put, List.setIfInBounds_toArray, List.set_cons_zero, List.set_cons_succ])
    refine tk_yes 4 (v := ?_) rfl (by kernel_rfl) (by kernel_rfl) (by kernel_rfl) (fun _ _ _ h => h) (by kernel_rfl) (by assumption) ?_ ?_; rotate_left; (focus (intro w hSw; (try dsimp only at hSw); go_simp; (first | done | (with_reducible rfl)))); (try simp only [Act.put, List.setIfInBounds_toArray, List.set_cons_zero, List.set_cons_succ])
    refine tk_yes 6 (v := ?_) rfl (by kernel_rfl) (by kernel_rfl) (by kernel_rfl) (fun _ _ _ h => h) (by kernel_rfl) (by assumption) ?_ ?_; rotate_left; (focus (intro w hSw; (try dsimp only at hSw); go_simp; (first | done | (with_reducible rfl)))); (try simp only [Act.put, List.setIfInBounds_toArray, List.set_cons_zero, List.set_cons_succ])
    refine tk_yes 7 (v := ?_) rfl (by kernel_rfl) (by kernel_rfl) (by kernel_rfl) (fun _ _ _ h => h) (by kernel_rfl) (by assumption) ?_ ?_; rotate_left; (focus (intro w hSw; (try dsimp only at hSw); go_simp; (first | done | (with_reducible rfl)))); (try simp only [Act.put, List.setIfInBounds_toArray, List.set_cons_zero, List.set_cons_succ])
    refine tk_yes 8 (v := ?_) rfl (by kernel_rfl) (by kernel_rfl) (by kernel_rfl) (fun _ _ _ h => h) (by kernel_rfl) (by assumption) ?_ ?_; rotate_left; (focus (intro w hSw; (try dsimp only at hSw); go_simp; (first | done | (with_reducible rfl)))); (try simp only [Act.put, List.setIfInBounds_toArray, List.set_cons_zero, List.set_cons_succ])
    refine tk_yes 9 (v := ?_) rfl (by kernel_rfl) (by kernel_rfl) (by kernel_rfl) (fun _ _ _ h => h) (by kernel_rfl) (by assumption) ?_ ?_; rotate_left; (focus (intro w hSw; (try dsimp only at hSw); go_simp; (first | done | (with_reducible rfl)))); (try simp only [Act.put, List.setIfInBounds_toArray, List.set_cons_zero, List.set_cons_succ])
    refine tk_yes 10 (v := ?_) rfl (by kernel_rfl) (by kernel_rfl) (by kernel_rfl) (fun _ _ _ h => h) (by kernel_rfl) (by assumption) ?_ ?_; rotate_left; (focus (intro w hSw; (try dsimp only at hSw); go_simp; (first | done | (with_reducible rfl)))); (try simp only [Act.put, List.setIfInBounds_toArray, List.set_cons_zero, List.set_cons_succ])
    refine tk_call 5 rfl (by kernel_rfl) (by kernel_rfl) (fun KW hKW => ?_); go_simp; go_at_call 17; refine (K1.out _ (by repeat (first | exact Below.refl _ _ | assumption | refine bel_drew ?_ | refine bel_trans ?_ (by assumption)))).mono ?_; rintro e u1 ⟨rfl, d1⟩; refine hKW.out _ _ ?_ (fun hHeld => ?_); (focus ((try dsimp only); exact hS.out _ (by repeat (first | exact Below.refl _ _ | assumption | refine bel_drew ?_ | refine bel_trans ?_ (by assumption))))); clear hKW KW; (try simp only [Act.put, List.setIfInBounds_toArray, List.set_cons_zero, List.set_cons_succ])
    refine tk_call 11 rfl (by kernel_rfl) (by kernel_rfl) (fun KW hKW => ?_); go_simp; go_at_call 18; refine (K2.out _ (by repeat (first | exact Below.refl _ _ | assumption | refine bel_drew ?_ | refine bel_trans ?_ (by assumption)))).mono ?_; rintro e u2 ⟨rfl, d2⟩; refine hKW.out _ _ ?_ (fun hHeld => ?_); (focus ((try dsimp only); exact hS.out _ (by repeat (first | exact Below.refl _ _ | assumption | refine bel_drew ?_ | refine bel_trans ?_ (by assumption))))); clear hKW KW; (try simp only [Act.put, List.setIfInBounds_toArray, List.set_cons_zero, List.set_cons_succ])
    refine tk_yes 12 (v := ?_) rfl (by kernel_rfl) (by kernel_rfl) (by kernel_rfl) (fun _ _ _ h => h) (by kernel_rfl) (by assumption) ?_ ?_; rotate_left; (focus (intro w hSw; (try dsimp only at hSw); go_simp; (first | done | (with_reducible rfl)))); (try simp only [Act.put, List.setIfInBounds_toArray, List.set_cons_zero, List.set_cons_succ])
    refine tk_yes 13 (v := ?_) rfl (by kernel_rfl) (by kernel_rfl) (by kernel_rfl) (fun _ _ _ h => h) (by kernel_rfl) (by assumption) ?_ ?_; rotate_left; (focus (intro w hSw; (try dsimp only at hSw); go_simp; (first | done | (with_reducible rfl)))); (try simp only [Act.put, List.setIfInBounds_toArray, List.set_cons_zero, List.set_cons_succ])
    refine tk_yes 14 (v := ?_) rfl (by kernel_rfl) (by kernel_rfl) (by kernel_rfl) (fun _ _ _ h => h) (by kernel_rfl) (by assumption) ?_ ?_; rotate_left; (focus (intro w hSw; (try dsimp only at hSw); go_simp; (first | done | (with_reducible rfl)))); (try simp only [Act.put, List.setIfInBounds_toArray, List.set_cons_zero, List.set_cons_succ])
    refine tk_yes 15 (v := ?_) rfl (by kernel_rfl) (by kernel_rfl) (by kernel_rfl) (fun _ _ _ h => h) (by kernel_rfl) (by assumption) ?_ ?_; rotate_left; (focus (intro w hSw; (try dsimp only at hSw); go_simp; (first | done | (with_reducible rfl)))); (try simp only [Act.put, List.setIfInBounds_toArray, List.set_cons_zero, List.set_cons_succ])
    refine tk_yes 16 (v := ?_) rfl (by kernel_rfl) (by kernel_rfl) (by kernel_rfl) (fun _ _ _ h => h) (by kernel_rfl) (by assumption) ?_ ?_; rotate_left; (focus (intro w hSw; (try dsimp only at hSw); go_simp; (first | done | (with_reducible rfl)))); (try simp only [Act.put, List.setIfInBounds_toArray, List.set_cons_zero, List.set_cons_succ])
    refine tk_yes 18 (v := ?_) rfl (by kernel_rfl) (by kernel_rfl) (by kernel_rfl) (fun _ _ _ h => h) (by kernel_rfl) (by assumption) ?_ ?_; rotate_left; (focus (intro w hSw; (try dsimp only at hSw); go_simp; (first | done | (with_reducible rfl)))); (try simp only [Act.put, List.setIfInBounds_toArray, List.set_cons_zero, List.set_cons_succ])
    refine tk_yes 19 (v := ?_) rfl (by kernel_rfl) (by kernel_rfl) (by kernel_rfl) (fun _ _ _ h => h) (by kernel_rfl) (by assumption) ?_ ?_; rotate_left; (focus (intro w hSw; (try dsimp only at hSw); go_simp; (first | done | (with_reducible rfl)))); (try simp only [Act.put, List.setIfInBounds_toArray, List.set_cons_zero, List.set_cons_succ])
    refine tk_call 17 rfl (by kernel_rfl) (by kernel_rfl) (fun KW hKW => ?_); go_simp; go_at_call 19; refine (K3.out _).mono ?_; rintro e u3 ⟨rfl, rfl⟩; refine hKW.out _ _ ?_ (fun hHeld => ?_); (focus ((try dsimp only); exact hS.out _ (by repeat (first | exact Below.refl _ _ | assumption | refine bel_drew ?_ | refine bel_trans ?_ (by assumption))))); clear hKW KW; (try simp only [Act.put, List.setIfInBounds_toArray, List.set_cons_zero, List.set_cons_succ])
    refine tk_yes 20 (v := ?_) rfl (by kernel_rfl) (by kernel_rfl) (by kernel_rfl) (fun _ _ _ h => h) (by kernel_rfl) (by assumption) ?_ ?_; rotate_left; (focus (intro w hSw; (try dsimp only at hSw); go_simp; (first | done | (with_reducible rfl)))); (try simp only [Act.put, List.setIfInBounds_toArray, List.set_cons_zero, List.set_cons_succ])
    refine tk_no 21 rfl (by kernel_rfl) (by kernel_rfl) (by kernel_rfl) (fun _ _ _ h => h) (by kernel_rfl) (by assumption) ?_; (try simp only [Act.put, List.setIfInBounds_toArray, List.set_cons_zero, List.set_cons_succ])
    refine tk_no 22 rfl (by kernel_rfl) (by kernel_rfl) (by kernel_rfl) (fun _ _ _ h => h) (by kernel_rfl) (by assumption) ?_; (try simp only [Act.put, List.setIfInBounds_toArray, List.set_cons_zero, List.set_cons_succ])
    refine tk_no 23 rfl (by kernel_rfl) (by kernel_rfl) (by kernel_rfl) (fun _ _ _ h => h) (by kernel_rfl) (by assumption) ?_; (try simp only [Act.put, List.setIfInBounds_toArray, List.set_cons_zero, List.set_cons_succ])
    refine tk_no 24 rfl (by kernel_rfl) (by kernel_rfl) (by kernel_rfl) (fun _ _ _ h => h) (by kernel_rfl) (by assumption) ?_; (try simp only [Act.put, List.setIfInBounds_toArray, List.set_cons_zero, List.set_cons_succ])
    refine tk_yes 25 (v := ?_) rfl (by kernel_rfl) (by kernel_rfl) (by kernel_rfl) (fun _ _ _ h => h) (by kernel_rfl) (by assumption) ?_ ?_; rotate_left; (focus (intro w hSw; (try dsimp only at hSw); go_simp; (first | done | (with_reducible rfl)))); (try simp only [Act.put, List.setIfInBounds_toArray, List.set_cons_zero, List.set_cons_succ])
    refine tk_yes 26 (v := ?_) rfl (by kernel_rfl) (by kernel_rfl) (by kernel_rfl) (fun _ _ _ h => h) (by kernel_rfl) (by assumption) ?_ ?_; rotate_left; (focus (intro w hSw; (try dsimp only at hSw); go_simp; (first | done | (with_reducible rfl)))); (try simp only [Act.put, List.setIfInBounds_toArray, List.set_cons_zero, List.set_cons_succ])
    refine tk_no 27 rfl (by kernel_rfl) (by kernel_rfl) (by kernel_rfl) (fun _ _ _ h => h) (by kernel_rfl) (by assumption) ?_; (try simp only [Act.put, List.setIfInBounds_toArray, List.set_cons_zero, List.set_cons_succ])
    refine tk_no 28 rfl (by kernel_rfl) (by kernel_rfl) (by kernel_rfl) (fun _ _ _ h => h) (by kernel_rfl) (by assumption) ?_; (try simp only [Act.put, List.setIfInBounds_toArray, List.set_cons_zero, List.set_cons_succ])
    refine tk_no 29 rfl (by kernel_rfl) (by kernel_rfl) (by kernel_rfl) (fun _ _ _ h => h) (by kernel_rfl) (by assumption) ?_; (try simp only [Act.put, List.setIfInBounds_toArray, List.set_cons_zero, List.set_cons_succ])
    refine tk_yes 30 (v := ?_) rfl (by kernel_rfl) (by kernel_rfl) (by kernel_rfl) (fun _ _ _ h => h) (by kernel_rfl) (by assumption) ?_ ?_; rotate_left; (focus (intro w hSw; (try dsimp only at hSw); go_simp; (first | done | (with_reducible rfl)))); (try simp only [Act.put, List.setIfInBounds_toArray, List.set_cons_zero, List.set_cons_succ])
    refine tk_yes 31 (v := ?_) rfl (by kernel_rfl) (by kernel_rfl) (by kernel_rfl) (fun _ _ _ h => h) (by kernel_rfl) (by assumption) ?_ ?_; rotate_left; (focus (intro w hSw; (try dsimp only at hSw); go_simp; (first | done | (with_reducible rfl)))); (try simp only [Act.put, List.setIfInBounds_toArray, List.set_cons_zero, List.set_cons_succ])
    refine tk_yes 32 (v := ?_) rfl (by kernel_rfl) (by kernel_rfl) (by kernel_rfl) (fun _ _ _ h => h) (by kernel_rfl) (by assumption) ?_ ?_; rotate_left; (focus (intro w hSw; (try dsimp only at hSw); go_simp; (first | done | (with_reducible rfl)))); (try simp only [Act.put, List.setIfInBounds_toArray, List.set_cons_zero, List.set_cons_succ])
    refine tk_yes 33 (v := ?_) rfl (by kernel_rfl) (by kernel_rfl) (by kernel_rfl) (fun _ _ _ h => h) (by kernel_rfl) (by assumption) ?_ ?_; rotate_left; (focus (intro w hSw; (try dsimp only at hSw); go_simp; (first | done | (with_reducible rfl)))); (try simp only [Act.put, List.setIfInBounds_toArray, List.set_cons_zero, List.set_cons_succ])
    refine tk_call 34 rfl (by kernel_rfl) (by kernel_rfl) (fun KW hKW => ?_); go_simp; go_at_call 16; refine (law29_works _).mono ?_; rintro e u4 ⟨rfl, d4⟩; refine hKW.out _ _ ?_ (fun hHeld => ?_); (focus ((try dsimp only); exact hS.out _ (by repeat (first | exact Below.refl _ _ | assumption | refine bel_drew ?_ | refine bel_trans ?_ (by assumption))))); clear hKW KW; (try simp only [Act.put, List.setIfInBounds_toArray, List.set_cons_zero, List.set_cons_succ])
    refine tk_yes 35 (v := ?_) rfl (by kernel_rfl) (by kernel_rfl) (by kernel_rfl) (fun _ _ _ h => h) (by kernel_rfl) (by assumption) ?_ ?_; rotate_left; (focus (intro w hSw; (try dsimp only at hSw); go_simp; (first | done | (with_reducible rfl)))); (try simp only [Act.put, List.setIfInBounds_toArray, List.set_cons_zero, List.set_cons_succ])
    refine tk_yes 36 (v := ?_) rfl (by kernel_rfl) (by kernel_rfl) (by kernel_rfl) (fun _ _ _ h => h) (by kernel_rfl) (by assumption) ?_ ?_; rotate_left; (focus (intro w hSw; (try dsimp only at hSw); go_simp; (first | done | (with_reducible rfl)))); (try simp only [Act.put, List.setIfInBounds_toArray, List.set_cons_zero, List.set_cons_succ])
    refine wpAnyH_done (by kernel_rfl) ?_ _
    go_wp2_with fail
    exact bodyPost_ret (v := .bool true) (by simp [results, Try.results3, go_sem]) rfl ⟨rfl, bel_trans' HB.out (bel_trans (bel_trans (bel_trans (bel_drew (Below.refl V.heap.size V)) d1) d2) d4) HB.out.size⟩

theorem law29_BankSafe {A : Option Addr} {n : Nat} {l : List PO.Mem} (c : Nat) (n0 n1 k : Int) (w : World) (h : MemAt w A n l) (b0 : -9223372036854775808 ≤ n0 ∧ n0 ≤ 9223372036854775807) (b1 : -9223372036854775808 ≤ n1 ∧ n1 ≤ 9223372036854775807) :
    Calls Try.prog 3 #[.agg #[.int .i64 n0, .int .i64 n1], .slice A n c, .int .i64 k] w fun e w' => e = .returned (.bool true) ∧ Below w.heap.size w w' := by
  rcases Nat.lt_or_ge 20 n with hn | hn
  · exact law29_BankSafe_long A n c n0 n1 k w hn
  · exact law29_BankSafe_some c n0 n1 k w h hn b0 b1
end Go.Proofs.Ythmjbfocpdiikaa
/-
  Layer 29 (bank): the walk of BankKeeps.
-/
namespace Go.Proofs.Ythmjbfocpdiikaa
open Go.RowKit
set_option linter.unusedVariables false
set_option linter.unusedSimpArgs false
attribute [local go_sem] drewN_alloc drewN_setCell

theorem bmay_facts {f w a x : Int} {l : List PO.Mem} (h : PO.bmay f w l a x = true) :
    ∃ k : Nat, a = k ∧ k < l.length ∧ PO.bad f w = false ∧ 1 ≤ x ∧ x ≤ f ∧ PO.ok (l.getD k PO.m0) = true ∧ x ≤ (l.getD k PO.m0).2.2.2 ∧
      PO.after l a x = (l.set k ((l.getD k PO.m0).1, (l.getD k PO.m0).2.1, (l.getD k PO.m0).2.2.1 + x, (l.getD k PO.m0).2.2.2 - x), true) ∧
      PO.bsafe (f - x) w (l.set k ((l.getD k PO.m0).1, (l.getD k PO.m0).2.1, (l.getD k PO.m0).2.2.1 + x, (l.getD k PO.m0).2.2.2 - x)) = true := by
  unfold PO.bmay at h
  by_cases h1 : PO.bad f w = true ∨ f < x
  · rw [if_pos h1] at h; cases h
  · rw [if_neg h1, Bool.and_eq_true] at h
    obtain ⟨h2, h3⟩ := h
    have hx := after_pos h2
    have hb : PO.bad f w = false := by cases hq : PO.bad f w <;> simp_all
    have e : PO.after l a x = (if a < 0 ∨ (l.length : Int) ≤ a then ([], false) else if (PO.grant (l.getD a.toNat PO.m0) x).2 ≠ 0 then ([], false) else (l.set a.toNat ((l.getD a.toNat PO.m0).1, (PO.grant (l.getD a.toNat PO.m0) x).1), true)) := rfl
    by_cases h4 : a < 0 ∨ (l.length : Int) ≤ a
    · rw [e, if_pos h4] at h2; cases h2
    · rw [if_neg h4] at e
      by_cases h5 : (PO.grant (l.getD a.toNat PO.m0) x).2 ≠ 0
      · rw [e, if_pos h5] at h2; cases h2
      · rw [if_neg h5] at e
        obtain ⟨k, rfl⟩ : ∃ k : Nat, a = k := ⟨a.toNat, by omega⟩
        rw [Int.toNat_natCast] at e h5
        have hk : k < l.length := by omega
        have hg : PO.grant (l.getD k PO.m0) x = PA.doo 2 (l.getD k PO.m0).2.1 (l.getD k PO.m0).2.2.1 (l.getD k PO.m0).2.2.2 x := rfl
        rw [hg] at h5 e
        obtain ⟨m, hm⟩ : ∃ m, l.getD k PO.m0 = m := ⟨_, rfl⟩
        rw [hm] at h5 e
        cases hr : PA.right m.2.1 m.2.2.1 m.2.2.2
        · rw [PA.doo_arg (.inl hr)] at h5; simp at h5
        · by_cases h6 : m.2.2.2 < x
          · rw [PA.doo2_no hr hx h6] at h5; simp at h5
          · rw [PA.doo2_yes hr hx (by omega)] at e
            rw [e] at h3
            refine ⟨k, rfl, hk, hb, hx, by omega, ?_⟩
            rw [hm]
            exact ⟨hr, by omega, e, h3⟩

theorem law29_BankKeeps_long (A : Option Addr) (n c : Nat) (f wt a x : Int) (w : World) (hn : 16 < n) :
    Calls Try.prog 4 #[.agg #[.int .i64 f, .int .i64 wt], .slice A n c, .agg #[.int .i64 a, .int .i64 x]] w fun e w' => e = .returned (.bool true) ∧ Below w.heap.size w w' := by
  have K := Lib.hid law29_works
  have hn' : decide ((16 : Int) < (n : Int)) = true := by simp; omega
  go_enter Try.func4, Try.ntmps4
  go_wp2_with fail
  refine (K.out _).mono ?_
  rintro e w1 ⟨rfl, h1⟩
  go_wp2_with fail
  exact bodyPost_ret (v := .bool true) (by simp [results, Try.results4, go_sem]) rfl ⟨rfl, (by repeat (first | exact Below.refl _ _ | assumption | refine bel_drew ?_ | refine bel_drewN ?_ _ | refine bel_alloc ?_ _ | refine bel_set ?_ (by first | (dsimp only; omega) | (simp; done) | (simp; omega)) _ | refine bel_trans ?_ (by assumption)))⟩

set_option maxRecDepth 100000 in
set_option maxHeartbeats 8000000 in
theorem law29_BankKeeps_some {A : Option Addr} {n : Nat} {l : List PO.Mem} (c : Nat) (f wt a x : Int) (w : World) (h : MemAt w A n l) (hn : n ≤ 16) (b0 : -9223372036854775808 ≤ f ∧ f ≤ 9223372036854775807) (b1 : -9223372036854775808 ≤ wt ∧ wt ≤ 9223372036854775807) (b2 : -9223372036854775808 ≤ a ∧ a ≤ 9223372036854775807) (b3 : -9223372036854775808 ≤ x ∧ x ≤ 9223372036854775807) :
    Calls Try.prog 4 #[.agg #[.int .i64 f, .int .i64 wt], .slice A n c, .agg #[.int .i64 a, .int .i64 x]] w fun e w' => e = .returned (.bool true) ∧ Below w.heap.size w w' := by
  obtain ⟨V, hV⟩ : ∃ V, (w.alloc (.cells #[.int .i64 f, .int .i64 wt] 22)).alloc (.cells #[.int .i64 a, .int .i64 x] 22) = V := ⟨_, rfl⟩
  obtain ⟨bs, hbs⟩ : ∃ bs, w.heap.size = bs := ⟨_, rfl⟩
  have hB : Below w.heap.size w V := by rw [← hV]; exact (by repeat (first | exact Below.refl _ _ | assumption | refine bel_drew ?_ | refine bel_drewN ?_ _ | refine bel_alloc ?_ _ | refine bel_set ?_ (by first | (dsimp only; omega) | (simp; done) | (simp; omega)) _ | refine bel_trans ?_ (by assumption)))
  have hS : Hid (∀ W, Below V.heap.size V W → W.cell? ⟨bs, 0, none⟩ = some (.int .i64 f) ∧ W.cell? ⟨bs, 1, none⟩ = some (.int .i64 wt) ∧ W.cell? ⟨bs + 1, 0, none⟩ = some (.int .i64 a) ∧ W.cell? ⟨bs + 1, 1, none⟩ = some (.int .i64 x)) := Lib.hid (fun W hW => by
    have hs : bs + 1 < V.heap.size := by rw [← hV, ← hbs]; simp
    have hs' : bs < V.heap.size := by omega
    exact ⟨(hW.cell hs').trans (by rw [← hV, ← hbs]; simp [go_sem]), (hW.cell hs').trans (by rw [← hV, ← hbs]; simp [go_sem]), (hW.cell hs).trans (by rw [← hV, ← hbs]; simp [go_sem]), (hW.cell hs).trans (by rw [← hV, ← hbs]; simp [go_sem])⟩)
  have hM := h.keep hB
  have K1 := bank_May c f wt a x hM (by omega) b0 b1 b2 b3
  have hn' : decide ((16 : Int) < (n : Int)) = false := by simp; omega
  have HV := Lib.hid hV
  have HBS := Lib.hid hbs
  have HB := Lib.hid hB
  cases hb : PO.bmay f wt l a x
  · rw [hb] at K1
    replace K1 := Lib.hid K1
    clear h hM hV hbs hB b0 b1 b2 b3 hb
    go_enter Try.func4, Try.ntmps4
    go_wp2_with fail
    rw [HV.out]
    refine K1.out.mono ?_
    rintro e w1 ⟨rfl, h1⟩
    go_wp2_with fail
    refine (law29_works _).mono ?_
    rintro e w2 ⟨rfl, h2⟩
    go_wp2_with fail
    exact bodyPost_ret (v := .bool true) (by simp [results, Try.results4, go_sem]) rfl ⟨rfl, bel_trans' HB.out (bel_trans h1 h2) HB.out.size⟩
  · rw [hb] at K1
    obtain ⟨k, rfl, hk, hbad, hx1, hxf, hok, hxr, haf, hsf⟩ := bmay_facts hb
    have K2 : Hid (∀ W, Below V.heap.size V W → Calls Try.prog 21 #[.slice A n c, .int .i64 (k : Int), .int .i64 x] W (GivesMem W (l.set k ((l.getD k PO.m0).1, (l.getD k PO.m0).2.1, (l.getD k PO.m0).2.2.1 + x, (l.getD k PO.m0).2.2.2 - x), true))) := Lib.hid (fun W hW => by
      rw [← haf]
      exact bank_After c k x (hM.keep hW) (by omega) b2 b3)
    have hkn : k < n := by rw [← h.1]; exact hk
    obtain ⟨b, off, rfl, hbM, hcs⟩ := hM.2.2.2 (by omega)
    have hcl := Lib.hid (hcs k hkn)
    have hlset : ∀ v, (l.set k v).getD k PO.m0 = v := fun v => set_getD_same l v hk
    have hslen : ∀ v, (l.set k v).length = n := fun v => by rw [List.length_set, h.1]
    have HKS : Hid (∀ v (X : World) (A' : Option Addr) (n' c' : Nat), v = ((l.getD k PO.m0).1, (l.getD k PO.m0).2.1, (l.getD k PO.m0).2.2.1 + x, (l.getD k PO.m0).2.2.2 - x) → MemAt X A' n' (l.set k v) → Calls Try.prog 17 #[.int .i64 (f - x), .int .i64 wt, .slice A' n' c'] X fun e W' => e = .returned (.bool true) ∧ Below X.heap.size X W') := Lib.hid (fun v X A' n' c' hv hX => by
      subst hv
      rw [← hsf]
      obtain ⟨q0, q1, q2, q3⟩ := PO.bad_iff.1 hbad
      exact bank_Safe c' (f - x) wt hX (by have := hX.1; rw [hslen] at this; omega) (by omega) b1)
    obtain ⟨m, hm⟩ : ∃ m, l.getD k PO.m0 = m := ⟨_, rfl⟩
    rw [hm] at hok hxr hcl K2 HKS
    have hr := (PA.right_iff _ _ _).1 hok
    have KR : Hid (∀ W, Calls Try.prog 22 #[.agg #[.int .i64 m.2.1, .int .i64 (m.2.2.1 + x), .int .i64 (m.2.2.2 - x)]] W fun e W' => e = .returned (.bool true) ∧ Below W.heap.size W W') := Lib.hid (fun W => by
      have q := ref26_Right m.2.1 (m.2.2.1 + x) (m.2.2.2 - x) W (by omega) (by omega) (by omega)
      rwa [(PA.right_iff _ _ _).2 (by omega)] at q)
    have w1' : IntKind.i64.wrap (m.2.2.1 + x) = m.2.2.1 + x := IntWalk.i64_in _ (by omega)
    obtain ⟨q0, q1, q2, q3⟩ := PO.bad_iff.1 hbad
    have w2' : IntKind.i64.wrap (f - x) = f - x := IntWalk.i64_in _ (by omega)
    have HSL := Lib.hid hslen
    have HLS := Lib.hid hlset
    have j0 : (0 : Int) ≤ (k : Int) := by omega
    have j1 : (k : Int) < (n : Int) := by omega
    replace K1 := Lib.hid K1
    clear h hM hV hbs hB b0 b1 b2 b3 hb hcs hslen hlset hm hok haf hsf hbad hk
    go_enter Try.func4, Try.ntmps4
    go_wp2_with fail
    rw [HV.out, HBS.out]
    refine K1.out.mono ?_
    rintro e w1 ⟨rfl, h1⟩
    obtain ⟨p0, p1, p2, p3⟩ := hS.out w1 h1
    go_wp2_with fail
    refine (K2.out _ h1).mono ?_
    rintro e w2 ⟨A2, n2, c2, rfl, i2, h2⟩
    have b12 := bel_trans h1 h2
    have hn2 : n = n2 := by rw [← HSL.out]; exact i2.1
    subst hn2
    obtain ⟨b2, o2, rfl, hb2, hc2⟩ := i2.2.2.2 (by omega)
    obtain ⟨y0, y1, y2, y3⟩ := hc2 k hkn
    rw [HLS.out] at y0 y1 y2 y3
    dsimp only at y0 y1 y2 y3
    obtain ⟨p0, p1, p2, p3⟩ := hS.out w2 b12
    obtain ⟨x0, x1, x2, x3⟩ := hcl.out.keep b12 hbM
    have hS6 : Hid (∀ W : World, Below w2.heap.size w2 W → (fun W : World => W.cell? ⟨bs, 0, none⟩ = some (.int .i64 f) ∧ W.cell? ⟨bs, 1, none⟩ = some (.int .i64 wt) ∧ W.cell? ⟨bs + 1, 0, none⟩ = some (.int .i64 (k : Int)) ∧ W.cell? ⟨bs + 1, 1, none⟩ = some (.int .i64 x) ∧ W.cell? ⟨b, off + k * 4 + 2, none⟩ = some (.int .i64 m.2.2.1) ∧ W.cell? ⟨b2, o2 + k * 4 + 1, none⟩ = some (.int .i64 m.2.1) ∧ W.cell? ⟨b2, o2 + k * 4 + 2, none⟩ = some (.int .i64 (m.2.2.1 + x)) ∧ W.cell? ⟨b2, o2 + k * 4 + 3, none⟩ = some (.int .i64 (m.2.2.2 - x))) W) := Lib.hid (fun W hW => by
      obtain ⟨p0, p1, p2, p3⟩ := hS.out W (bel_trans b12 hW)
      have bm := Nat.lt_of_lt_of_le hbM b12.size
      exact ⟨p0, p1, p2, p3, (hW.cell bm).trans x2, (hW.cell hb2).trans y1, (hW.cell hb2).trans y2, (hW.cell hb2).trans y3⟩)
    have KS := Lib.hid (fun X (hX : Below w2.heap.size w2 X) => HKS.out _ X _ n c2 rfl (i2.keep hX))
    clear i2 hc2 y0 x0
    go_wp2_with fail
    refine wp_region_held_drew (S := (fun W : World => W.cell? ⟨bs, 0, none⟩ = some (.int .i64 f) ∧ W.cell? ⟨bs, 1, none⟩ = some (.int .i64 wt) ∧ W.cell? ⟨bs + 1, 0, none⟩ = some (.int .i64 (k : Int)) ∧ W.cell? ⟨bs + 1, 1, none⟩ = some (.int .i64 x) ∧ W.cell? ⟨b, off + k * 4 + 2, none⟩ = some (.int .i64 m.2.2.1) ∧ W.cell? ⟨b2, o2 + k * 4 + 1, none⟩ = some (.int .i64 m.2.1) ∧ W.cell? ⟨b2, o2 + k * 4 + 2, none⟩ = some (.int .i64 (m.2.2.1 + x)) ∧ W.cell? ⟨b2, o2 + k * 4 + 3, none⟩ = some (.int .i64 (m.2.2.2 - x)))) (by kernel_rfl) ?_ (fun hHeld => ?_)
    focus ((try dsimp only); exact hS6.out _ (by repeat (first | exact Below.refl _ _ | assumption | refine bel_drew ?_ | refine bel_trans ?_ (by assumption))))
    refine tk_yes 0 (v := ?_) rfl (by kernel_rfl) (by kernel_rfl) (by kernel_rfl) (fun _ _ _ h => h) (by kernel_rfl) (by assumption) ?_ ?_; rotate_left; (focus (intro w hSw; (try dsimp only at hSw); go_simp; (first | done | (with_reducible rfl)))); (try simp only [Act.put, List.setIfInBounds_toArray, List.set_cons_zero, List.set_cons_succ])
    refine tk_yes 1 (v := ?_) rfl (by kernel_rfl) (by kernel_rfl) (by kernel_rfl) (fun _ _ _ h => h) (by kernel_rfl) (by assumption) ?_ ?_; rotate_left; (focus (intro w hSw; (try dsimp only at hSw); go_simp; (first | done | (with_reducible rfl)))); (try simp only [Act.put, List.setIfInBounds_toArray, List.set_cons_zero, List.set_cons_succ])
    refine tk_yes 2 (v := ?_) rfl (by kernel_rfl) (by kernel_rfl) (by kernel_rfl) (fun _ _ _ h => h) (by kernel_rfl) (by assumption) ?_ ?_; rotate_left; (focus (intro w hSw; (try dsimp only at hSw); go_simp; (first | done | (with_reducible rfl)))); (try simp only [Act.put, List.setIfInBounds_toArray, List.set_cons_zero, List.set_cons_succ])
    refine tk_yes 3 (v := ?_) rfl (by kernel_rfl) (by kernel_rfl) (by kernel_rfl) (fun _ _ _ h => h) (by kernel_rfl) (by assumption) ?_ ?_; rotate_left; (focus (intro w hSw; (try dsimp only at hSw); go_simp; (first | done | (with_reducible rfl)))); (try simp only [Act.put, List.setIfInBounds_toArray, List.set_cons_zero, List.set_cons_succ])
    refine tk_yes 4 (v := ?_) rfl (by kernel_rfl) (by kernel_rfl) (by kernel_rfl) (fun _ _ _ h => h) (by kernel_rfl) (by assumption) ?_ ?_; rotate_left; (focus (intro w hSw; (try dsimp only at hSw); go_simp; (first | done | (with_reducible rfl)))); (try simp only [Act.put, List.setIfInBounds_toArray, List.set_cons_zero, List.set_cons_succ])
    refine tk_yes 5 (v := ?_) rfl (by kernel_rfl) (by kernel_rfl) (by kernel_rfl) (fun _ _ _ h => h) (by kernel_rfl) (by assumption) ?_ ?_; rotate_left; (focus (intro w hSw; (try dsimp only at hSw); go_simp; (first | done | (with_reducible rfl)))); (try simp only [Act.put, List.setIfInBounds_toArray, List.set_cons_zero, List.set_cons_succ])
    refine tk_yes 6 (v := ?_) rfl (by kernel_rfl) (by kernel_rfl) (by kernel_rfl) (fun _ _ _ h => h) (by kernel_rfl) (by assumption) ?_ ?_; rotate_left; (focus (intro w hSw; (try dsimp only at hSw); go_simp; (first | done | (with_reducible rfl)))); (try simp only [Act.put, List.setIfInBounds_toArray, List.set_cons_zero, List.set_cons_succ])
    refine tk_yes 7 (v := ?_) rfl (by kernel_rfl) (by kernel_rfl) (by kernel_rfl) (fun _ _ _ h => h) (by kernel_rfl) (by assumption) ?_ ?_; rotate_left; (focus (intro w hSw; (try dsimp only at hSw); go_simp; (first | done | (with_reducible rfl)))); (try simp only [Act.put, List.setIfInBounds_toArray, List.set_cons_zero, List.set_cons_succ])
    refine tk_yes 8 (v := ?_) rfl (by kernel_rfl) (by kernel_rfl) (by kernel_rfl) (fun _ _ _ h => h) (by kernel_rfl) (by assumption) ?_ ?_; rotate_left; (focus (intro w hSw; (try dsimp only at hSw); go_simp; (first | done | (with_reducible rfl)))); (try simp only [Act.put, List.setIfInBounds_toArray, List.set_cons_zero, List.set_cons_succ])
    refine tk_yes 9 (v := ?_) rfl (by kernel_rfl) (by kernel_rfl) (by kernel_rfl) (fun _ _ _ h => h) (by kernel_rfl) (by assumption) ?_ ?_; rotate_left; (focus (intro w hSw; (try dsimp only at hSw); go_simp; (first | done | (with_reducible rfl)))); (try simp only [Act.put, List.setIfInBounds_toArray, List.set_cons_zero, List.set_cons_succ])
    refine tk_yes 10 (v := ?_) rfl (by kernel_rfl) (by kernel_rfl) (by kernel_rfl) (fun _ _ _ h => h) (by kernel_rfl) (by assumption) ?_ ?_; rotate_left; (focus (intro w hSw; (try dsimp only at hSw); go_simp; (first | done | (with_reducible rfl)))); (try simp only [Act.put, List.setIfInBounds_toArray, List.set_cons_zero, List.set_cons_succ])
    refine tk_yes 11 (v := ?_) rfl (by kernel_rfl) (by kernel_rfl) (by kernel_rfl) (fun _ _ _ h => h) (by kernel_rfl) (by assumption) ?_ ?_; rotate_left; (focus (intro w hSw; (try dsimp only at hSw); go_simp; (first | done | (with_reducible rfl)))); (try simp only [Act.put, List.setIfInBounds_toArray, List.set_cons_zero, List.set_cons_succ])
    refine tk_yes 12 (v := ?_) rfl (by kernel_rfl) (by kernel_rfl) (by kernel_rfl) (fun _ _ _ h => h) (by kernel_rfl) (by assumption) ?_ ?_; rotate_left; (focus (intro w hSw; (try dsimp only at hSw); go_simp; (first | done | (with_reducible rfl)))); (try simp only [Act.put, List.setIfInBounds_toArray, List.set_cons_zero, List.set_cons_succ])
    refine tk_yes 13 (v := ?_) rfl (by kernel_rfl) (by kernel_rfl) (by kernel_rfl) (fun _ _ _ h => h) (by kernel_rfl) (by assumption) ?_ ?_; rotate_left; (focus (intro w hSw; (try dsimp only at hSw); go_simp; (first | done | (with_reducible rfl)))); (try simp only [Act.put, List.setIfInBounds_toArray, List.set_cons_zero, List.set_cons_succ])
    refine tk_yes 14 (v := ?_) rfl (by kernel_rfl) (by kernel_rfl) (by kernel_rfl) (fun _ _ _ h => h) (by kernel_rfl) (by assumption) ?_ ?_; rotate_left; (focus (intro w hSw; (try dsimp only at hSw); go_simp; (first | done | (with_reducible rfl)))); (try simp only [Act.put, List.setIfInBounds_toArray, List.set_cons_zero, List.set_cons_succ])
    refine tk_yes 15 (v := ?_) rfl (by kernel_rfl) (by kernel_rfl) (by kernel_rfl) (fun _ _ _ h => h) (by kernel_rfl) (by assumption) ?_ ?_; rotate_left; (focus (intro w hSw; (try dsimp only at hSw); go_simp; (first | done | (with_reducible rfl)))); (try simp only [Act.put, List.setIfInBounds_toArray, List.set_cons_zero, List.set_cons_succ])
    refine tk_yes 16 (v := ?_) rfl (by kernel_rfl) (by kernel_rfl) (by kernel_rfl) (fun _ _ _ h => h) (by kernel_rfl) (by assumption) ?_ ?_; rotate_left; (focus (intro w hSw; (try dsimp only at hSw); go_simp; (first | done | (with_reducible rfl)))); (try simp only [Act.put, List.setIfInBounds_toArray, List.set_cons_zero, List.set_cons_succ])
    refine tk_yes 17 (v := ?_) rfl (by kernel_rfl) (by kernel_rfl) (by kernel_rfl) (fun _ _ _ h => h) (by kernel_rfl) (by assumption) ?_ ?_; rotate_left; (focus (intro w hSw; (try dsimp only at hSw); go_simp; (first | done | (with_reducible rfl)))); (try simp only [Act.put, List.setIfInBounds_toArray, List.set_cons_zero, List.set_cons_succ])
    refine tk_yes 18 (v := ?_) rfl (by kernel_rfl) (by kernel_rfl) (by kernel_rfl) (fun _ _ _ h => h) (by kernel_rfl) (by assumption) ?_ ?_; rotate_left; (focus (intro w hSw; (try dsimp only at hSw); go_simp; (first | done | (with_reducible rfl)))); (try simp only [Act.put, List.setIfInBounds_toArray, List.set_cons_zero, List.set_cons_succ])
    refine tk_yes 19 (v := ?_) rfl (by kernel_rfl) (by kernel_rfl) (by kernel_rfl) (fun _ _ _ h => h) (by kernel_rfl) (by assumption) ?_ ?_; rotate_left; (focus (intro w hSw; (try dsimp only at hSw); go_simp; (first | done | (with_reducible rfl)))); (try simp only [Act.put, List.setIfInBounds_toArray, List.set_cons_zero, List.set_cons_succ])
    refine tk_yes 20 (v := ?_) rfl (by kernel_rfl) (by kernel_rfl) (by kernel_rfl) (fun _ _ _ h => h) (by kernel_rfl) (by assumption) ?_ ?_; rotate_left; (focus (intro w hSw; (try dsimp only at hSw); go_simp; (first | done | (with_reducible rfl)))); (try simp only [Act.put, List.setIfInBounds_toArray, List.set_cons_zero, List.set_cons_succ])
    refine tk_yes 21 (v := ?_) rfl (by kernel_rfl) (by kernel_rfl) (by kernel_rfl) (fun _ _ _ h => h) (by kernel_rfl) (by assumption) ?_ ?_; rotate_left; (focus (intro w hSw; (try dsimp only at hSw); go_simp; (first | done | (with_reducible rfl)))); (try simp only [Act.put, List.setIfInBounds_toArray, List.set_cons_zero, List.set_cons_succ])
    refine tk_yes 22 (v := ?_) rfl (by kernel_rfl) (by kernel_rfl) (by kernel_rfl) (fun _ _ _ h => h) (by kernel_rfl) (by assumption) ?_ ?_; rotate_left; (focus (intro w hSw; (try dsimp only at hSw); go_simp; (first | done | (with_reducible rfl)))); (try simp only [Act.put, List.setIfInBounds_toArray, List.set_cons_zero, List.set_cons_succ])
    refine tk_yes 23 (v := ?_) rfl (by kernel_rfl) (by kernel_rfl) (by kernel_rfl) (fun _ _ _ h => h) (by kernel_rfl) (by assumption) ?_ ?_; rotate_left; (focus (intro w hSw; (try dsimp only at hSw); go_simp; (first | done | (with_reducible rfl)))); (try simp only [Act.put, List.setIfInBounds_toArray, List.set_cons_zero, List.set_cons_succ])
    refine tk_yes 24 (v := ?_) rfl (by kernel_rfl) (by kernel_rfl) (by kernel_rfl) (fun _ _ _ h => h) (by kernel_rfl) (by assumption) ?_ ?_; rotate_left; (focus (intro w hSw; (try dsimp only at hSw); go_simp; (first | done | (with_reducible rfl)))); (try simp only [Act.put, List.setIfInBounds_toArray, List.set_cons_zero, List.set_cons_succ])
    refine tk_call 25 rfl (by kernel_rfl) (by kernel_rfl) (fun KW hKW => ?_); go_simp; go_at_call 22; refine (KR.out _).mono ?_; rintro e u1 ⟨rfl, d1⟩; refine hKW.out _ _ ?_ (fun hHeld => ?_); (focus ((try dsimp only); exact hS6.out _ (by repeat (first | exact Below.refl _ _ | assumption | refine bel_drew ?_ | refine bel_trans ?_ (by assumption))))); clear hKW KW; (try simp only [Act.put, List.setIfInBounds_toArray, List.set_cons_zero, List.set_cons_succ])
    refine tk_yes 26 (v := ?_) rfl (by kernel_rfl) (by kernel_rfl) (by kernel_rfl) (fun _ _ _ h => h) (by kernel_rfl) (by assumption) ?_ ?_; rotate_left; (focus (intro w hSw; (try dsimp only at hSw); go_simp; (first | done | (with_reducible rfl)))); (try simp only [Act.put, List.setIfInBounds_toArray, List.set_cons_zero, List.set_cons_succ])
    refine tk_yes 27 (v := ?_) rfl (by kernel_rfl) (by kernel_rfl) (by kernel_rfl) (fun _ _ _ h => h) (by kernel_rfl) (by assumption) ?_ ?_; rotate_left; (focus (intro w hSw; (try dsimp only at hSw); go_simp; (first | done | (with_reducible rfl)))); (try simp only [Act.put, List.setIfInBounds_toArray, List.set_cons_zero, List.set_cons_succ])
    refine tk_yes 28 (v := ?_) rfl (by kernel_rfl) (by kernel_rfl) (by kernel_rfl) (fun _ _ _ h => h) (by kernel_rfl) (by assumption) ?_ ?_; rotate_left; (focus (intro w hSw; (try dsimp only at hSw); go_simp; (first | done | (with_reducible rfl)))); (try simp only [Act.put, List.setIfInBounds_toArray, List.set_cons_zero, List.set_cons_succ])
    refine tk_yes 29 (v := ?_) rfl (by kernel_rfl) (by kernel_rfl) (by kernel_rfl) (fun _ _ _ h => h) (by kernel_rfl) (by assumption) ?_ ?_; rotate_left; (focus (intro w hSw; (try dsimp only at hSw); go_simp; (first | done | (with_reducible rfl)))); (try simp only [Act.put, List.setIfInBounds_toArray, List.set_cons_zero, List.set_cons_succ])
    refine tk_yes 30 (v := ?_) rfl (by kernel_rfl) (by kernel_rfl) (by kernel_rfl) (fun _ _ _ h => h) (by kernel_rfl) (by assumption) ?_ ?_; rotate_left; (focus (intro w hSw; (try dsimp only at hSw); go_simp; (first | done | (with_reducible rfl)))); (try simp only [Act.put, List.setIfInBounds_toArray, List.set_cons_zero, List.set_cons_succ])
    refine tk_yes 31 (v := ?_) rfl (by kernel_rfl) (by kernel_rfl) (by kernel_rfl) (fun _ _ _ h => h) (by kernel_rfl) (by assumption) ?_ ?_; rotate_left; (focus (intro w hSw; (try dsimp only at hSw); go_simp; (first | done | (with_reducible rfl)))); (try simp only [Act.put, List.setIfInBounds_toArray, List.set_cons_zero, List.set_cons_succ])
    refine tk_yes 32 (v := ?_) rfl (by kernel_rfl) (by kernel_rfl) (by kernel_rfl) (fun _ _ _ h => h) (by kernel_rfl) (by assumption) ?_ ?_; rotate_left; (focus (intro w hSw; (try dsimp only at hSw); go_simp; (first | done | (with_reducible rfl)))); (try simp only [Act.put, List.setIfInBounds_toArray, List.set_cons_zero, List.set_cons_succ])
    refine tk_yes 33 (v := ?_) rfl (by kernel_rfl) (by kernel_rfl) (by kernel_rfl) (fun _ _ _ h => h) (by kernel_rfl) (by assumption) ?_ ?_; rotate_left; (focus (intro w hSw; (try dsimp only at hSw); go_simp; (first | done | (with_reducible rfl)))); (try simp only [Act.put, List.setIfInBounds_toArray, List.set_cons_zero, List.set_cons_succ])
    refine tk_yes 34 (v := ?_) rfl (by kernel_rfl) (by kernel_rfl) (by kernel_rfl) (fun _ _ _ h => h) (by kernel_rfl) (by assumption) ?_ ?_; rotate_left; (focus (intro w hSw; (try dsimp only at hSw); go_simp; (first | done | (with_reducible rfl)))); (try simp only [Act.put, List.setIfInBounds_toArray, List.set_cons_zero, List.set_cons_succ])
    refine tk_yes 35 (v := ?_) rfl (by kernel_rfl) (by kernel_rfl) (by kernel_rfl) (fun _ _ _ h => h) (by kernel_rfl) (by assumption) ?_ ?_; rotate_left; (focus (intro w hSw; (try dsimp only at hSw); go_simp; (first | done | (with_reducible rfl)))); (try simp only [Act.put, List.setIfInBounds_toArray, List.set_cons_zero, List.set_cons_succ])
    refine tk_call 36 rfl (by kernel_rfl) (by kernel_rfl) (fun KW hKW => ?_); go_simp; go_at_call 17; refine (KS.out _ (by repeat (first | exact Below.refl _ _ | assumption | refine bel_drew ?_ | refine bel_trans ?_ (by assumption)))).mono ?_; rintro e u2 ⟨rfl, d2⟩; refine hKW.out _ _ ?_ (fun hHeld => ?_); (focus ((try dsimp only); exact hS6.out _ (by repeat (first | exact Below.refl _ _ | assumption | refine bel_drew ?_ | refine bel_trans ?_ (by assumption))))); clear hKW KW; (try simp only [Act.put, List.setIfInBounds_toArray, List.set_cons_zero, List.set_cons_succ])
    refine tk_yes 37 (v := ?_) rfl (by kernel_rfl) (by kernel_rfl) (by kernel_rfl) (fun _ _ _ h => h) (by kernel_rfl) (by assumption) ?_ ?_; rotate_left; (focus (intro w hSw; (try dsimp only at hSw); go_simp; (first | done | (with_reducible rfl)))); (try simp only [Act.put, List.setIfInBounds_toArray, List.set_cons_zero, List.set_cons_succ])
    refine tk_yes 38 (v := ?_) rfl (by kernel_rfl) (by kernel_rfl) (by kernel_rfl) (fun _ _ _ h => h) (by kernel_rfl) (by assumption) ?_ ?_; rotate_left; (focus (intro w hSw; (try dsimp only at hSw); go_simp; (first | done | (with_reducible rfl)))); (try simp only [Act.put, List.setIfInBounds_toArray, List.set_cons_zero, List.set_cons_succ])
    refine tk_call 39 rfl (by kernel_rfl) (by kernel_rfl) (fun KW hKW => ?_); go_simp; go_at_call 16; refine (law29_works _).mono ?_; rintro e u3 ⟨rfl, d3⟩; refine hKW.out _ _ ?_ (fun hHeld => ?_); (focus ((try dsimp only); exact hS6.out _ (by repeat (first | exact Below.refl _ _ | assumption | refine bel_drew ?_ | refine bel_trans ?_ (by assumption))))); clear hKW KW; (try simp only [Act.put, List.setIfInBounds_toArray, List.set_cons_zero, List.set_cons_succ])
    refine tk_yes 40 (v := ?_) rfl (by kernel_rfl) (by kernel_rfl) (by kernel_rfl) (fun _ _ _ h => h) (by kernel_rfl) (by assumption) ?_ ?_; rotate_left; (focus (intro w hSw; (try dsimp only at hSw); go_simp; (first | done | (with_reducible rfl)))); (try simp only [Act.put, List.setIfInBounds_toArray, List.set_cons_zero, List.set_cons_succ])
    refine tk_yes 41 (v := ?_) rfl (by kernel_rfl) (by kernel_rfl) (by kernel_rfl) (fun _ _ _ h => h) (by kernel_rfl) (by assumption) ?_ ?_; rotate_left; (focus (intro w hSw; (try dsimp only at hSw); go_simp; (first | done | (with_reducible rfl)))); (try simp only [Act.put, List.setIfInBounds_toArray, List.set_cons_zero, List.set_cons_succ])
    refine wpAnyH_done (by kernel_rfl) ?_ _
    go_wp2_with fail
    exact bodyPost_ret (v := .bool true) (by simp [results, Try.results4, go_sem]) rfl ⟨rfl, bel_trans' HB.out (bel_trans (bel_trans (bel_trans (bel_drew b12) d1) d2) d3) HB.out.size⟩

theorem law29_BankKeeps {A : Option Addr} {n : Nat} {l : List PO.Mem} (c : Nat) (f wt a x : Int) (w : World) (h : MemAt w A n l) (b0 : -9223372036854775808 ≤ f ∧ f ≤ 9223372036854775807) (b1 : -9223372036854775808 ≤ wt ∧ wt ≤ 9223372036854775807) (b2 : -9223372036854775808 ≤ a ∧ a ≤ 9223372036854775807) (b3 : -9223372036854775808 ≤ x ∧ x ≤ 9223372036854775807) :
    Calls Try.prog 4 #[.agg #[.int .i64 f, .int .i64 wt], .slice A n c, .agg #[.int .i64 a, .int .i64 x]] w fun e w' => e = .returned (.bool true) ∧ Below w.heap.size w w' := by
  rcases Nat.lt_or_ge 16 n with hn | hn
  · exact law29_BankKeeps_long A n c f wt a x w hn
  · exact law29_BankKeeps_some c f wt a x w h hn b0 b1 b2 b3
end Go.Proofs.Ythmjbfocpdiikaa
/-
  Plain: what the order that is told has; who may end whatever is done first.
-/
namespace Go.Proofs.Ythmjbfocpdiikaa
set_option linter.unusedVariables false
namespace PO
def held (l : List Mem) (i : Nat) : Int := (l.getD i m0).2.2.1
def sumH (l : List Mem) (d : List Nat) : Int := (d.map (held l)).sum
theorem sumH_snoc (l : List Mem) (d : List Nat) (i : Nat) : sumH l (d ++ [i]) = sumH l d + held l i := by simp [sumH]
/-- Each is ready in its turn. -/
def Turn (l : List Mem) (free : Int) (d : List Nat) : Prop := ∀ j, j < d.length → d.getD j 0 < l.length ∧ need (l.getD (d.getD j 0) m0) ≤ free + sumH l (d.take j)
theorem turn_nil (l : List Mem) (free : Int) : Turn l free [] := fun j h => absurd h (by simp)
theorem turn_snoc {l : List Mem} {free : Int} {d : List Nat} {i : Nat} (h : Turn l free d) (hi : i < l.length) (hn : need (l.getD i m0) ≤ free + sumH l d) : Turn l free (d ++ [i]) := by
  intro j hj
  rw [List.length_append] at hj
  simp only [List.length_cons, List.length_nil] at hj
  rcases Nat.lt_or_ge j d.length with h1 | h1
  · have e : (d ++ [i]).getD j 0 = d.getD j 0 := by simp [List.getD, List.getElem?_append_left h1]
    rw [e, List.take_append_of_le_length (by omega)]
    exact h j h1
  · obtain rfl : j = d.length := by omega
    have e : (d ++ [i]).getD d.length 0 = i := by simp [List.getD]
    rw [e, List.take_append_of_le_length (Nat.le_refl _), List.take_length]
    exact ⟨hi, hn⟩
/-- Who is taken at last: each in its turn, all unlike, and nobody who is left is ready. -/
theorem taken_spec {l : List Mem} (ha : l.all ok = true) (free : Int) : ∀ (k : Nat) (f : Int) (done : List Nat), Good l k f done → f = free + sumH l done → Turn l free done →
    ∃ k' f', Good l k' f' (taken l k f done) ∧ f' = free + sumH l (taken l k f done) ∧ Turn l free (taken l k f done) ∧ next f' l (taken l k f done) = none
  | 0, f, done, hg, hf, ht => by
    cases hn : next f l done with
    | none => exact ⟨0, f, hg, hf, ht, hn⟩
    | some i =>
      obtain ⟨k', e, _⟩ := good_next ha hg hn
      exact absurd e (by omega)
  | k + 1, f, done, hg, hf, ht => by
    cases hn : next f l done with
    | none =>
      rw [taken_none hn]
      exact ⟨k + 1, f, hg, hf, ht, hn⟩
    | some i =>
      rw [taken_some hn]
      obtain ⟨k', e, hg'⟩ := good_next ha hg hn
      obtain rfl : k = k' := by omega
      obtain ⟨n1, n2, n3, _⟩ := next_some.1 hn
      exact taken_spec ha free k _ _ hg' (by rw [sumH_snoc, hf]; unfold held; omega) (turn_snoc ht n1 (by rw [← hf]; exact n3))
theorem takenAll_spec {l : List Mem} {free : Int} (hm : may free l = true) :
    (takenAll free l).Nodup ∧ (∀ x ∈ takenAll free l, x < l.length) ∧ Turn l free (takenAll free l) ∧ next (free + sumH l (takenAll free l)) l (takenAll free l) = none := by
  obtain ⟨k', f', hg, hf, ht, hn⟩ := taken_spec (may_iff.1 hm).2.2 free l.length free [] (good_start hm) (by simp [sumH]) (turn_nil l free)
  rw [hf] at hn
  exact ⟨hg.1, hg.2.1, ht, hn⟩
/-- More held by more. -/
theorem sumH_perm {l : List Mem} {a b : List Nat} (h : a.Perm b) : sumH l a = sumH l b := by
  induction h with
  | nil => rfl
  | cons x _ ih => simp [sumH] at ih ⊢; omega
  | swap x y _ => simp [sumH]; omega
  | trans _ _ h1 h2 => exact h1.trans h2
theorem sumH_nonneg {l : List Mem} (ha : l.all ok = true) {d : List Nat} (hd : ∀ x ∈ d, x < l.length) : 0 ≤ sumH l d := by
  induction d with
  | nil => simp [sumH]
  | cons x t ih =>
    have h1 := ih (fun y hy => hd y (List.mem_cons_of_mem _ hy))
    have h2 := (ok_held (ok_get ha (hd x List.mem_cons_self))).1
    simp [sumH, held] at h1 h2 ⊢
    omega
theorem sumH_sub {l : List Mem} (ha : l.all ok = true) : ∀ {a b : List Nat}, a.Nodup → (∀ x ∈ b, x < l.length) → (∀ x ∈ a, x ∈ b) → sumH l a ≤ sumH l b
  | [], b, _, hb, _ => by simpa [sumH] using sumH_nonneg ha hb
  | x :: t, b, hn, hb, hs => by
    have hx := hs x List.mem_cons_self
    have hp := List.perm_cons_erase hx
    rw [sumH_perm hp]
    have hn' := List.nodup_cons.1 hn
    have ih := sumH_sub ha (a := t) (b := b.erase x) hn'.2 (fun y hy => hb y (List.mem_of_mem_erase hy)) (fun y hy => by
      have h1 := hs y (List.mem_cons_of_mem _ hy)
      have h2 : y ≠ x := fun e => hn'.1 (e ▸ hy)
      exact (List.mem_erase_of_ne h2).2 h1)
    simp [sumH] at ih ⊢
    omega
/-- If each of d is ready in its turn, and nobody but those of X can go on, then d lies within X. -/
theorem turn_within {l : List Mem} (ha : l.all ok = true) {free free' : Int} {d X : List Nat} (hd : d.Nodup) (ht : Turn l free d) (hX : ∀ x ∈ X, x < l.length) (hff : free ≤ free') (hn : next (free' + sumH l X) l X = none) :
    ∀ x ∈ d, x ∈ X := by
  have key : ∀ j, j ≤ d.length → ∀ x ∈ d.take j, x ∈ X := by
    intro j
    induction j with
    | zero => intro _ x hx; simp at hx
    | succ j ih =>
      intro hj x hx
      have hlt : j < d.length := by omega
      have e : d.take (j + 1) = d.take j ++ [d.getD j 0] := by rw [List.take_add_one, List.getElem?_eq_getElem hlt]; simp [List.getD, hlt]
      rw [e] at hx
      rcases List.mem_append.1 hx with h1 | h1
      · exact ih (by omega) x h1
      · simp only [List.mem_singleton] at h1
        obtain ⟨t1, t2⟩ := ht j hlt
        have hs := sumH_sub ha (hd.sublist (List.take_sublist j d)) hX (ih (by omega))
        rcases next_none' hn _ t1 with h2 | h2
        · rw [h1]; exact h2
        · omega
  intro x hx
  exact key d.length (Nat.le_refl _) x (by rwa [List.take_length])
theorem safe_iff {free : Int} {l : List Mem} (hm : may free l = true) : safe free l = true ↔ (takenAll free l).length = l.length := by
  have e : order free l = (if may free l = false then ([], false) else if (takenAll free l).length < l.length then ([], false) else (takenAll free l, true)) := rfl
  rw [if_neg (by rw [hm]; simp)] at e
  obtain ⟨h1, h2, _⟩ := takenAll_spec hm
  have := nodup_le _ _ h1 h2
  unfold safe
  rw [e]
  split <;> simp <;> omega
/-- All of them are in a list of as many. -/
theorem all_in : ∀ (n : Nat) (d : List Nat), d.Nodup → (∀ x ∈ d, x < n) → d.length = n → ∀ i, i < n → i ∈ d
  | 0, _, _, _, _, i, hi => absurd hi (by omega)
  | n + 1, d, hd, h, hl, i, hi => by
    by_cases hm : n ∈ d
    · by_cases e : i = n
      · rw [e]; exact hm
      · have hl' : (d.erase n).length = n := by rw [List.length_erase_of_mem hm]; omega
        have := all_in n (d.erase n) (hd.erase n) (fun x hx => by
          have := (hd.mem_erase_iff).1 hx
          have := h x this.2
          omega) hl' i (by omega)
        exact List.mem_of_mem_erase this
    · have := nodup_le n d hd (fun x hx => by
        have h1 := h x hx
        have h2 : x ≠ n := fun e => hm (e ▸ hx)
        omega)
      omega
/-- If all are taken, nobody is left in whatever set nobody can go on from. -/
theorem safe_stuck {free free' : Int} {l : List Mem} (hm : may free l = true) (hs : safe free l = true) {X : List Nat} (hX : ∀ x ∈ X, x < l.length) (hff : free ≤ free') (hn : next (free' + sumH l X) l X = none) (i : Nat) (hi : i < l.length) : i ∈ X := by
  obtain ⟨h1, h2, h3, _⟩ := takenAll_spec hm
  exact turn_within (may_iff.1 hm).2.2 h1 h3 hX hff hn i (all_in _ _ h1 h2 ((safe_iff hm).1 hs) i hi)
/-- If from each set that nobody can go on from nobody is left, all may end. -/
theorem safe_of_stuck {free : Int} {l : List Mem} (hm : may free l = true) (h : ∀ X : List Nat, X.Nodup → (∀ x ∈ X, x < l.length) → Turn l free X → next (free + sumH l X) l X = none → ∀ i, i < l.length → i ∈ X) : safe free l = true := by
  obtain ⟨h1, h2, h3, h4⟩ := takenAll_spec hm
  rw [safe_iff hm]
  have hall := h _ h1 h2 h3 h4
  have h5 := nodup_le _ _ h1 h2
  have h6 : (List.range l.length).length ≤ (takenAll free l).length := by
    have hs := (List.nodup_range (n := l.length)).length_le_of_subset (l₂ := takenAll free l) (fun x hx => hall x (by simpa using hx))
    exact hs
  rw [List.length_range] at h6
  omega
end PO
end Go.Proofs.Ythmjbfocpdiikaa
/-
  Plain: one member more that holds nothing.
-/
namespace Go.Proofs.Ythmjbfocpdiikaa
set_option linter.unusedVariables false
namespace PO
def down (X : List Nat) : List Nat := X.filterMap (fun x => if x = 0 then none else some (x - 1))
theorem in_down {X : List Nat} {j : Nat} : j ∈ down X ↔ j + 1 ∈ X := by
  unfold down
  rw [List.mem_filterMap]
  constructor
  · rintro ⟨a, ha, e⟩
    by_cases h : a = 0
    · rw [if_pos h] at e; cases e
    · rw [if_neg h] at e
      cases e
      rwa [show a - 1 + 1 = a by omega]
  · intro h
    exact ⟨j + 1, h, by simp⟩
theorem held_zero (m : Mem) (l : List Mem) : held (m :: l) 0 = m.2.2.1 := by simp [held, List.getD]
theorem held_succ (m : Mem) (l : List Mem) (j : Nat) : held (m :: l) (j + 1) = held l j := by simp [held, List.getD]
theorem sumH_down {m : Mem} {l : List Mem} (h0 : m.2.2.1 = 0) : ∀ X : List Nat, sumH (m :: l) X = sumH l (down X)
  | [] => by simp [sumH, down]
  | a :: t => by
    have ih := sumH_down (l := l) h0 t
    cases a with
    | zero =>
      have e : down (0 :: t) = down t := by simp [down]
      rw [e, ← ih]
      simp [sumH, held_zero, h0]
    | succ j =>
      have e : down ((j + 1) :: t) = j :: down t := by simp [down]
      rw [e]
      simp [sumH, held_succ] at ih ⊢
      omega
def all (l : List Mem) : Int := sumH l (List.range l.length)
theorem getD_cons (m : Mem) (l : List Mem) (j : Nat) : (m :: l).getD (j + 1) m0 = l.getD j m0 := by simp [List.getD]
theorem new_safe {free c : Int} {l : List Mem} (hm : may free l = true) (hs : safe free l = true) (h1 : 1 ≤ c) (h2 : c ≤ 1048576) (hc : c ≤ free + all l) : safe free ((63, c, 0, 0) :: l) = true := by
  have hok : ok (63, c, 0, 0) = true := (PA.right_iff c 0 0).2 ⟨h1, h2, by omega, by omega, by omega⟩
  have hnd : need (63, c, 0, 0) = c := by
    show PA.need c 0 0 = c
    unfold PA.need
    rw [if_pos (show PA.right c 0 0 = true from hok)]
    omega
  obtain ⟨f0, f1, fa⟩ := may_iff.1 hm
  have hm2 : may free ((63, c, 0, 0) :: l) = true := may_iff.2 ⟨f0, f1, by rw [List.all_cons, hok, fa]; rfl⟩
  refine safe_of_stuck hm2 (fun X hX hXl hXt hn i hi => ?_)
  rw [sumH_down (by rfl)] at hn
  have hdl : ∀ x ∈ down X, x < l.length := fun x hx => by
    have := hXl _ (in_down.1 hx)
    simpa using this
  have hn' : next (free + sumH l (down X)) l (down X) = none := next_none (fun j hj => by
    rcases next_none' hn (j + 1) (by simpa using hj) with h | h
    · exact .inl (in_down.2 h)
    · rw [getD_cons] at h; exact .inr h)
  have hall := safe_stuck hm hs hdl (Int.le_refl free) hn'
  cases i with
  | succ j => exact in_down.1 (hall j (by simpa using hi))
  | zero =>
    rcases next_none' hn 0 (by simp) with h | h
    · exact h
    · have e : ((63, c, 0, 0) :: l : List Mem).getD 0 m0 = (63, c, 0, 0) := by simp [List.getD]
      rw [e, hnd] at h
      have := sumH_sub fa (a := List.range l.length) (b := down X) List.nodup_range hdl (fun x hx => hall x (by simpa using hx))
      unfold all at hc
      omega
/-- Somebody is ready at once. -/
theorem safe_first {free : Int} {l : List Mem} (hm : may free l = true) (hs : safe free l = true) (h0 : 0 < l.length) : ∃ i, i < l.length ∧ need (l.getD i m0) ≤ free := by
  have hl := (safe_iff hm).1 hs
  obtain ⟨_, _, h3, _⟩ := takenAll_spec hm
  obtain ⟨t1, t2⟩ := h3 0 (by omega)
  exact ⟨_, t1, by simpa [sumH] using t2⟩
theorem all_take {l : List Mem} (k : Nat) : sumH l (List.range (k + 1)) = sumH l (List.range k) + held l k := by rw [List.range_succ, sumH_snoc]
theorem safe_may {free : Int} {l : List Mem} (h : safe free l = true) : may free l = true := by
  cases hq : may free l
  · unfold safe order at h; rw [if_pos hq] at h; cases h
  · rfl
end PO
end Go.Proofs.Ythmjbfocpdiikaa
/-
  Rows of members of the call's own; the walk of BankNew.
-/
namespace Go.Proofs.Ythmjbfocpdiikaa
open Go.RowKit
set_option linter.unusedVariables false
set_option linter.unusedSimpArgs false
attribute [local go_sem] drewN_alloc drewN_setCell

def OwnM (B : Nat) (w : World) (v : Value) (l : List PO.Mem) : Prop := w.ownsRow B 34 4 v l.length (cellsM l)
theorem getD_appM (l m : List PO.Mem) (i : Nat) : (l ++ m).getD i PO.m0 = if i < l.length then l.getD i PO.m0 else m.getD (i - l.length) PO.m0 := by
  simp only [List.getD]
  split
  · rename_i h; rw [List.getElem?_append_left h]
  · rename_i h; rw [List.getElem?_append_right (by omega)]
theorem cellsM_append (l m : List PO.Mem) : cellsM (l ++ m) = cellsM l ++ cellsM m := by
  apply List.ext_getElem?
  intro j
  rcases Nat.lt_or_ge j (l.length * 4) with h1 | h1
  · rw [List.getElem?_append_left (by rw [cellsM_len]; exact h1), cellsM_at l h1, cellsM_at _ (by rw [List.length_append]; omega), getD_appM, if_pos (by omega)]
  · rw [List.getElem?_append_right (by rw [cellsM_len]; exact h1), cellsM_len]
    rcases Nat.lt_or_ge j ((l.length + m.length) * 4) with h2 | h2
    · rw [cellsM_at m (by omega), cellsM_at _ (by rw [List.length_append]; exact h2), getD_appM, if_neg (by omega)]
      rw [show (j - l.length * 4) % 4 = j % 4 by omega, show (j - l.length * 4) / 4 = j / 4 - l.length by omega]
    · rw [List.getElem?_eq_none (by rw [cellsM_len, List.length_append]; exact h2), List.getElem?_eq_none (by rw [cellsM_len]; omega)]
theorem OwnM.mem {B : Nat} {w : World} {v : Value} {l : List PO.Mem} (h : OwnM B w v l) (hb : ∀ m ∈ l, MemBd m) : ∃ A c, v = .slice A l.length c ∧ MemAt w A l.length l := by
  rcases h.2 with ⟨rfl, e⟩ | ⟨g, cap, cur, rfl, hg, hgg, hn, hcm, hcs, hx⟩
  · obtain rfl := List.eq_nil_of_length_eq_zero e
    exact ⟨none, 0, rfl, MemAt.nil⟩
  · refine ⟨_, _, rfl, rfl, by unfold maxLen at hcm; omega, hb, fun h0 => ⟨g, 0, rfl, (Array.getElem?_eq_some_iff.1 hgg).1, fun i hi => ?_⟩⟩
    have key : ∀ r, r < 4 → w.cell? ⟨g, 0 + i * 4 + r, none⟩ = some (comp r (l.getD i PO.m0)) := fun r hr => by
      rw [Nat.zero_add, World.ownsRow.cellAt (w := w) (base := B) (e := 34) (size := 4) h (i * 4 + r) (by omega), cellsM_at l (by omega), show (i * 4 + r) % 4 = r by omega, show (i * 4 + r) / 4 = i by omega]
    exact ⟨key 0 (by omega), key 1 (by omega), key 2 (by omega), key 3 (by omega)⟩
theorem srcM_of {w : World} {A : Option Addr} {n : Nat} {l : List PO.Mem} (h : MemAt w A n l) : SrcS 4 w A n (cellsM l) := by
  by_cases h0 : 0 < n
  · obtain ⟨b, off, rfl, _, _⟩ := h.2.2.2 h0
    refine ⟨by rw [cellsM_len, h.1], fun e => by simp at e, fun ad e j u hu => ?_⟩
    obtain rfl : (⟨b, off, none⟩ : Addr) = ad := by simpa using e
    exact h.cellsM h0 j u hu
  · obtain rfl : n = 0 := by omega
    obtain rfl := List.eq_nil_of_length_eq_zero h.1
    exact ⟨by simp [cellsM], fun _ => rfl, fun ad e j u hu => by simp [cellsM] at hu⟩
theorem infoMem : ∃ (i : TypeInfo) (z : Value), Try.prog.info? 34 = some i ∧ i.zero = some z ∧ i.size = 4 ∧ i.bytes = 32 ∧ z.cells.size = 4 := by
  have h : (Try.prog.info? 34).map (fun i => (i.zero.map (fun z => z.cells.size), i.size, i.bytes)) = some (some 4, 4, 32) := by kernel_rfl
  rcases hi : Try.prog.info? 34 with _ | i
  · rw [hi] at h; cases h
  · rw [hi] at h
    simp only [Option.map_some, Option.some.injEq, Prod.mk.injEq] at h
    obtain ⟨h1, h2, h3⟩ := h
    obtain ⟨z, hz, hzs⟩ := Option.map_eq_some_iff.1 h1
    exact ⟨i, z, rfl, hz, h2, h3, hzs⟩
theorem app_operM {o : Oper} {a : Act} {K : Act → World → Prop} {Q : Exit → Act → World → Prop} {w : World} (s x : Operand)
    (ho : o.op = .call { callee := .builtin .append, args := #[s, x], argTypes := #[23, 23] })
    (B : Nat) (v : Value) (l : List PO.Mem) (hsv : a.eval s = v) (hown : OwnM B w v l)
    (A : Option Addr) (m c : Nat) (l2 : List PO.Mem) (hx : a.eval x = .slice A m c) (hs : SrcS 4 w A m (cellsM l2)) (hlen : l.length + m ≤ 1048576) (hbase : B ≤ w.heap.size)
    (h : ∀ v' w', OwnM B w' v' (l ++ l2) → Below B w w' → K (a.put o.dst v') w') : o.wp Try.prog a w K Q := by
  obtain ⟨i, z, hi, hz, hsz, hby, hzs⟩ := infoMem
  refine wp_append_S w 4 (by decide) s x 23 ho B 34 i z 32 Try.underlying23 hi hz hsz hby hzs v l.length _ hsv hown A m c _ hx hs (cellsM_one l2) (by unfold maxLen; omega) (by omega) hbase (fun v' w' h2 h3 h4 => ?_)
  refine h v' w' ?_ ((Below.refl B w).grown h3 hbase (fun g hg => (hown.lt g hg).1))
  have hm : m = l2.length := by have := hs.1; rw [cellsM_len] at this; omega
  unfold OwnM
  rw [cellsM_append, List.length_append, ← hm]
  exact h2
theorem own_oneM (w : World) (m : PO.Mem) : OwnM w.heap.size (w.alloc (.cells #[.int .i64 m.1, .int .i64 m.2.1, .int .i64 m.2.2.1, .int .i64 m.2.2.2] 34)) (.slice (some ⟨w.heap.size, 0, none⟩) 1 1) [m] :=
  ⟨by simp [cellsM], .inr ⟨w.heap.size, 1, _, rfl, Nat.le_refl _, World.alloc_heap_new _ _, Nat.le_refl _, by unfold maxLen; omega, rfl, by simp [cellsM, comp, List.range, List.range.loop, List.getD]⟩⟩

theorem sumH_le {l : List PO.Mem} (ha : l.all PO.ok = true) : ∀ k, k ≤ l.length → 0 ≤ PO.sumH l (List.range k) ∧ PO.sumH l (List.range k) ≤ 1048576 * (k : Int)
  | 0, _ => by simp [PO.sumH]
  | k + 1, hk => by
    have ih := sumH_le ha k (by omega)
    have := PO.ok_held (PO.ok_get ha (show k < l.length by omega))
    rw [PO.all_take]
    unfold PO.held
    push_cast
    omega
theorem need_bd {m : PO.Mem} (h : PO.ok m = true) : 0 ≤ PO.need m ∧ PO.need m ≤ 1048576 := by
  have hr := (PA.right_iff _ _ _).1 h
  unfold PO.need PA.need
  rw [if_pos (show PA.right m.2.1 m.2.2.1 m.2.2.2 = true from h)]
  omega
def NewRel (V : World) (l : List PO.Mem) (fr : Int) (n : Nat) (al ls i : Value) (wr : World) : Prop :=
  ∃ (k : Nat) (s : Int), k ≤ n ∧ i = .int .i64 k ∧ al = .int .i64 (fr + PO.sumH l (List.range k)) ∧ ls = .int .i64 s ∧ ((k = 0 ∧ s = -1) ∨ (0 < k ∧ 0 ≤ s ∧ s ≤ 1048576 ∧ ∀ j, j < k → s ≤ PO.need (l.getD j PO.m0))) ∧ Below V.heap.size V wr

theorem law29_BankNew_long (A : Option Addr) (n c : Nat) (f wt cl : Int) (w : World) (hn : 16 < n) :
    Calls Try.prog 5 #[.agg #[.int .i64 f, .int .i64 wt], .slice A n c, .int .u8 cl] w fun e w' => e = .returned (.bool true) ∧ Below w.heap.size w w' := by
  have K := Lib.hid law29_works
  have hn' : decide ((16 : Int) < (n : Int)) = true := by simp; omega
  go_enter Try.func5, Try.ntmps5
  go_wp2_with fail
  refine (K.out _).mono ?_
  rintro e w1 ⟨rfl, h1⟩
  go_wp2_with fail
  exact bodyPost_ret (v := .bool true) (by simp [results, Try.results5, go_sem]) rfl ⟨rfl, (by repeat (first | exact Below.refl _ _ | assumption | refine bel_drew ?_ | refine bel_drewN ?_ _ | refine bel_alloc ?_ _ | refine bel_set ?_ (by first | (dsimp only; omega) | (simp; done) | (simp; omega)) _ | refine bel_trans ?_ (by assumption)))⟩

set_option maxRecDepth 100000 in
set_option maxHeartbeats 8000000 in
theorem law29_BankNew_some {A : Option Addr} {n : Nat} {l : List PO.Mem} (c : Nat) (f wt cl : Int) (w : World) (h : MemAt w A n l) (hn : n ≤ 16) (b0 : -9223372036854775808 ≤ f ∧ f ≤ 9223372036854775807) (b1 : -9223372036854775808 ≤ wt ∧ wt ≤ 9223372036854775807) (b2 : 0 ≤ cl ∧ cl ≤ 255) :
    Calls Try.prog 5 #[.agg #[.int .i64 f, .int .i64 wt], .slice A n c, .int .u8 cl] w fun e w' => e = .returned (.bool true) ∧ Below w.heap.size w w' := by
  obtain ⟨V, hV⟩ : ∃ V, w.alloc (.cells #[.int .i64 f, .int .i64 wt] 22) = V := ⟨_, rfl⟩
  obtain ⟨bs, hbs⟩ : ∃ bs, w.heap.size = bs := ⟨_, rfl⟩
  have hB : Below w.heap.size w V := by rw [← hV]; exact (by repeat (first | exact Below.refl _ _ | assumption | refine bel_drew ?_ | refine bel_drewN ?_ _ | refine bel_alloc ?_ _ | refine bel_set ?_ (by first | (dsimp only; omega) | (simp; done) | (simp; omega)) _ | refine bel_trans ?_ (by assumption)))
  have hS : Hid (∀ W : World, Below V.heap.size V W → W.cell? ⟨bs, 0, none⟩ = some (.int .i64 f) ∧ W.cell? ⟨bs, 1, none⟩ = some (.int .i64 wt)) := Lib.hid (fun W hW => by
    have hs : bs < V.heap.size := by rw [← hV, ← hbs]; simp
    exact ⟨(hW.cell hs).trans (by rw [← hV, ← hbs]; simp [go_sem]), (hW.cell hs).trans (by rw [← hV, ← hbs]; simp [go_sem])⟩)
  have hM := h.keep hB
  have K1 := bank_Safe c f wt hM (by omega) b0 b1
  have hn' : decide ((16 : Int) < (n : Int)) = false := by simp; omega
  have HV := Lib.hid hV
  have HBS := Lib.hid hbs
  have HB := Lib.hid hB
  cases hb : PO.bsafe f wt l
  · rw [hb] at K1
    replace K1 := Lib.hid K1
    clear h hM hV hbs hB b0 b1 b2 hb
    go_enter Try.func5, Try.ntmps5
    go_wp2_with fail
    rw [HV.out]
    refine K1.out.mono ?_
    rintro e w1 ⟨rfl, h1⟩
    go_wp2_with fail
    refine (law29_works _).mono ?_
    rintro e w2 ⟨rfl, h2⟩
    go_wp2_with fail
    exact bodyPost_ret (v := .bool true) (by simp [results, Try.results5, go_sem]) rfl ⟨rfl, bel_trans' HB.out (bel_trans h1 h2) HB.out.size⟩
  · rw [hb] at K1
    have hbs2 : PO.bad f wt = false ∧ PO.safe (f + wt) l = true := by
      unfold PO.bsafe at hb
      cases hq : PO.bad f wt
      · rw [hq, if_neg (by simp)] at hb; exact ⟨rfl, hb⟩
      · rw [hq, if_pos rfl] at hb; cases hb
    obtain ⟨hbad, hsafe⟩ := hbs2
    obtain ⟨q0, q1, q2, q3⟩ := PO.bad_iff.1 hbad
    have hmay := PO.safe_may hsafe
    have ha := (PO.may_iff.1 hmay).2.2
    have hnew : Hid (∀ x, 1 ≤ x → x ≤ 1048576 → x ≤ (f + wt) + PO.all l → PO.bsafe f wt ((63, x, 0, 0) :: l) = true) := Lib.hid (fun x h1 h2 h3 => by
      unfold PO.bsafe
      rw [hbad, if_neg (by simp)]
      exact PO.new_safe hmay hsafe h1 h2 h3)
    have hfirst : Hid (0 < n → ∃ i, i < n ∧ PO.need (l.getD i PO.m0) ≤ f + wt) := Lib.hid (fun h0 => by
      have := PO.safe_first hmay hsafe (by rw [h.1]; exact h0)
      rwa [h.1] at this)
    have HA := Lib.hid ha
    have HX := Lib.hid h.1
    have HMB := Lib.hid h.2.2.1
    have HM := Lib.hid hM
    have w0 : IntKind.i64.wrap (f + wt) = f + wt := IntWalk.i64_in _ (by omega)
    replace K1 := Lib.hid K1
    clear h hM hV hbs hB hb hbad hsafe hmay ha
    go_enter Try.func5, Try.ntmps5
    go_wp2_with fail
    rw [HV.out, HBS.out]
    refine K1.out.mono ?_
    rintro e w1 ⟨rfl, h1⟩
    obtain ⟨p0, p1⟩ := hS.out w1 h1
    go_wp2_with fail
    go_loopw [7, 8, 9] (fun al ls i wr => NewRel V l (f + wt) n al ls i wr) (fun _ _ i _ => n - (intOf i).toNat)
    case atStart => exact ⟨0, -1, Nat.zero_le _, rfl, by simp [PO.sumH], rfl, .inl ⟨rfl, rfl⟩, h1⟩
    case round =>
      obtain ⟨k, s, hk, rfl, rfl, rfl, hs, hbel⟩ := hrel
      have HS := Lib.hid hs
      have sb := sumH_le HA.out k (by rw [HX.out]; exact hk)
      have hs1 : -1 ≤ s ∧ s ≤ 1048576 := by rcases hs with ⟨_, e⟩ | ⟨_, e1, e2, _⟩ <;> omega
      have j0 : (0 : Int) ≤ (k : Int) := by omega
      by_cases hlt : (k : Int) < n
      · have hkn : k < n := by omega
        obtain ⟨b, off, rfl, hbM, hcs⟩ := HM.out.2.2.2 (by omega)
        obtain ⟨x0, x1, x2, x3⟩ := (hcs k hkn).keep hbel hbM
        have bd := HM.out.bd hkn
        have hok := PO.ok_get HA.out (show k < l.length by rw [HX.out]; exact hkn)
        have hsum := PO.all_take (l := l) k
        have hnb := need_bd hok
        have hhb := PO.ok_held hok
        unfold PO.held at hsum
        obtain ⟨m, hm⟩ : ∃ m, l.getD k PO.m0 = m := ⟨_, rfl⟩
        rw [hm] at x0 x1 x2 x3 bd hsum hnb hhb
        have KN := fun W => ref26_Need m.2.1 m.2.2.1 m.2.2.2 W bd.2.1 bd.2.2.1 bd.2.2.2
        have HNE : Hid (∀ s', s' ≤ PO.need m → (∀ j, j < k → s' ≤ PO.need (l.getD j PO.m0)) → ∀ j, j < k + 1 → s' ≤ PO.need (l.getD j PO.m0)) := Lib.hid (fun s' h1 h2 j hj => by
          rcases Nat.lt_or_ge j k with h3 | h3
          · exact h2 j h3
          · obtain rfl : j = k := by omega
            rw [hm]; exact h1)
        have hnd : PO.need m = PA.need m.2.1 m.2.2.1 m.2.2.2 := rfl
        rw [← hnd] at KN
        generalize PO.need m = nd at *
        have w1' : IntKind.i64.wrap (f + wt + PO.sumH l (List.range k) + m.2.2.1) = f + wt + PO.sumH l (List.range k) + m.2.2.1 := IntWalk.i64_in _ (by omega)
        have HSUM : Hid (f + wt + PO.sumH l (List.range k) + m.2.2.1 = f + wt + PO.sumH l (List.range (k + 1))) := Lib.hid (by rw [hsum]; omega)
        replace KN := Lib.hid KN
        generalize PO.sumH l (List.range k) = sk at *
        clear hcs hok hm hsum hnd hs bd x0 b0 b1 p0 p1
        by_cases c1 : s < 0
        · have g1 : decide (s < 0) = true := decide_eq_true c1
          go_wp2_with fail
          refine (KN.out _).mono ?_
          rintro e w2 ⟨rfl, h2⟩
          go_wp2_with fail
          go_roundw
          case rel =>
            refine ⟨k + 1, nd, by omega, by go_num, by rw [HSUM.out], rfl, .inr ⟨by omega, hnb.1, hnb.2, HNE.out nd (Int.le_refl _) (fun j hj => ?_)⟩, bel_trans hbel h2⟩
            rcases HS.out with ⟨e, _⟩ | ⟨_, e, _⟩ <;> omega
          case measure => simp [intOf]; omega
        · have g1 : decide (s < 0) = false := decide_eq_false c1
          have hk0 : 0 < k ∧ 0 ≤ s ∧ ∀ j, j < k → s ≤ PO.need (l.getD j PO.m0) := by
            rcases HS.out with ⟨_, e⟩ | ⟨e0, e1, _, e2⟩
            · omega
            · exact ⟨e0, e1, e2⟩
          replace hk0 := Lib.hid hk0
          by_cases c2 : nd < s
          · have g2 : decide (nd < s) = true := decide_eq_true c2
            go_wp2_with fail
            refine (KN.out _).mono ?_
            rintro e w2 ⟨rfl, h2⟩
            go_wp2_with fail
            go_roundw
            case rel => exact ⟨k + 1, nd, by omega, by go_num, by rw [HSUM.out], rfl, .inr ⟨by omega, hnb.1, hnb.2, HNE.out nd (Int.le_refl _) (fun j hj => by have := hk0.out.2.2 j hj; omega)⟩, bel_trans hbel h2⟩
            case measure => simp [intOf]; omega
          · have g2 : decide (nd < s) = false := decide_eq_false c2
            go_wp2_with fail
            refine (KN.out _).mono ?_
            rintro e w2 ⟨rfl, h2⟩
            go_wp2_with fail
            go_roundw
            case rel => exact ⟨k + 1, s, by omega, by go_num, by rw [HSUM.out], rfl, .inr ⟨by omega, hk0.out.2.1, by omega, HNE.out s (by omega) hk0.out.2.2⟩, bel_trans hbel h2⟩
            case measure => simp [intOf]; omega
      · obtain rfl : k = n := by omega
        have g1 : decide (f + wt < s) = false := by
          rw [decide_eq_false_iff_not]
          rcases hs with ⟨_, e⟩ | ⟨e0, _, _, e2⟩
          · omega
          · obtain ⟨i, hi, hni⟩ := hfirst.out e0
            have := e2 i hi
            omega
        have hall : PO.all l = PO.sumH l (List.range k) := by unfold PO.all; rw [HX.out]
        rw [hall] at hnew
        generalize PO.sumH l (List.range k) = sk at *
        obtain ⟨p0, p1⟩ := hS.out wr hbel
        have w1' : IntKind.i64.wrap (1 + cl) = 1 + cl := IntWalk.i64_in _ (by omega)
        obtain ⟨cc, hcc⟩ : ∃ cc, 1 + cl = cc := ⟨_, rfl⟩
        rw [hcc] at w1'
        clear hs b0 b1 hall
        by_cases c1 : f + wt + sk < cc
        · have g2 : decide (f + wt + sk < cc) = true := decide_eq_true c1
          have g3 : decide (f + wt + sk < 1 + cl) = true := by rw [hcc]; exact g2
          go_wp2_with fail
          refine (law29_works _).mono ?_
          rintro e w2 ⟨rfl, h2⟩
          go_wp2_with fail
          exact bodyPost_ret (v := .bool true) (by simp [results, Try.results5, go_sem]) rfl ⟨rfl, bel_trans' HB.out (bel_trans hbel h2) HB.out.size⟩
        · have g2 : decide (f + wt + sk < cc) = false := decide_eq_false c1
          have g3 : decide (f + wt + sk < 1 + cl) = false := by rw [hcc]; exact g2
          have hbd : ∀ m ∈ ([(63, 1 + cl, 0, 0)] ++ l : List PO.Mem), MemBd m := fun m hm => by
            rcases List.mem_append.1 hm with h | h
            · simp only [List.mem_singleton] at h
              subst h
              refine ⟨⟨?_, ?_⟩, ⟨?_, ?_⟩, ⟨?_, ?_⟩, ?_, ?_⟩ <;> dsimp only <;> omega
            · exact HMB.out m h
          have HBD := Lib.hid hbd
          have HNS := Lib.hid (hnew.out (1 + cl) (by omega) (by omega) (by omega))
          have HSRC : Hid (∀ W, Below V.heap.size V W → SrcS 4 W A k (cellsM l)) := Lib.hid (fun W hW => srcM_of (HM.out.keep hW))
          clear hbd g2 hcc w1' c1
          go_wp2_with fail
          refine wp_region_held_drew (S := (fun W : World => W.cell? ⟨bs, 0, none⟩ = some (.int .i64 f) ∧ W.cell? ⟨bs, 1, none⟩ = some (.int .i64 wt))) (by kernel_rfl) ?_ (fun hHeld => ?_)
          focus ((try dsimp only); exact hS.out _ (by repeat (first | exact Below.refl _ _ | assumption | refine bel_drew ?_ | refine bel_alloc ?_ _ | refine bel_trans ?_ (by assumption))))
          refine tk_yes 0 (v := ?_) rfl (by kernel_rfl) (by kernel_rfl) (by kernel_rfl) (fun _ _ _ h => h) (by kernel_rfl) (by assumption) ?_ ?_; rotate_left; (focus (intro w hSw; (try dsimp only at hSw); go_simp; (first | done | (with_reducible rfl)))); (try simp only [Act.put, List.setIfInBounds_toArray, List.set_cons_zero, List.set_cons_succ])
          refine tk_yes 1 (v := ?_) rfl (by kernel_rfl) (by kernel_rfl) (by kernel_rfl) (fun _ _ _ h => h) (by kernel_rfl) (by assumption) ?_ ?_; rotate_left; (focus (intro w hSw; (try dsimp only at hSw); go_simp; (first | done | (with_reducible rfl)))); (try simp only [Act.put, List.setIfInBounds_toArray, List.set_cons_zero, List.set_cons_succ])
          refine tk_yes 2 (v := ?_) rfl (by kernel_rfl) (by kernel_rfl) (by kernel_rfl) (fun _ _ _ h => h) (by kernel_rfl) (by assumption) ?_ ?_; rotate_left; (focus (intro w hSw; (try dsimp only at hSw); go_simp; (first | done | (with_reducible rfl)))); (try simp only [Act.put, List.setIfInBounds_toArray, List.set_cons_zero, List.set_cons_succ])
          refine tk_yes 3 (v := ?_) rfl (by kernel_rfl) (by kernel_rfl) (by kernel_rfl) (fun _ _ _ h => h) (by kernel_rfl) (by assumption) ?_ ?_; rotate_left; (focus (intro w hSw; (try dsimp only at hSw); go_simp; (first | done | (with_reducible rfl)))); (try simp only [Act.put, List.setIfInBounds_toArray, List.set_cons_zero, List.set_cons_succ])
          refine tk_yes 4 (v := ?_) rfl (by kernel_rfl) (by kernel_rfl) (by kernel_rfl) (fun _ _ _ h => h) (by kernel_rfl) (by assumption) ?_ ?_; rotate_left; (focus (intro w hSw; (try dsimp only at hSw); go_simp; (first | done | (with_reducible rfl)))); (try simp only [Act.put, List.setIfInBounds_toArray, List.set_cons_zero, List.set_cons_succ])
          refine tk_yes 5 (v := ?_) rfl (by kernel_rfl) (by kernel_rfl) (by kernel_rfl) (fun _ _ _ h => h) (by kernel_rfl) (by assumption) ?_ ?_; rotate_left; (focus (intro w hSw; (try dsimp only at hSw); go_simp; (first | done | (with_reducible rfl)))); (try simp only [Act.put, List.setIfInBounds_toArray, List.set_cons_zero, List.set_cons_succ])
          refine tk_yes 6 (v := ?_) rfl (by kernel_rfl) (by kernel_rfl) (by kernel_rfl) (fun _ _ _ h => h) (by kernel_rfl) (by assumption) ?_ ?_; rotate_left; (focus (intro w hSw; (try dsimp only at hSw); go_simp; (first | done | (with_reducible rfl)))); (try simp only [Act.put, List.setIfInBounds_toArray, List.set_cons_zero, List.set_cons_succ])
          refine tk_yes 8 (v := ?_) rfl (by kernel_rfl) (by kernel_rfl) (by kernel_rfl) (fun _ _ _ h => h) (by kernel_rfl) (by assumption) ?_ ?_; rotate_left; (focus (intro w hSw; (try dsimp only at hSw); go_simp; (first | done | (with_reducible rfl)))); (try simp only [Act.put, List.setIfInBounds_toArray, List.set_cons_zero, List.set_cons_succ])
          refine tk_call 7 rfl (by kernel_rfl) (by kernel_rfl) (fun KW hKW => ?_); go_simp; refine hKW.out _ _ ?_ (fun hHeld => ?_); (focus ((try dsimp only); exact hS.out _ (by repeat (first | exact Below.refl _ _ | assumption | refine bel_drew ?_ | refine bel_alloc ?_ _ | refine bel_trans ?_ (by assumption))))); clear hKW KW; (try simp only [Act.put, List.setIfInBounds_toArray, List.set_cons_zero, List.set_cons_succ])
          refine tk_call 9 rfl (by kernel_rfl) (by kernel_rfl) (fun KW hKW => ?_); refine app_operM (.tmp 79) (.tmp 80) rfl wr.heap.size _ [(63, 1 + cl, 0, 0)] rfl (own_oneM wr.drew (63, 1 + cl, 0, 0)) A k c l rfl (HSRC.out _ (bel_alloc (bel_drew hbel) _)) (by simp; omega) (by simp) ?_; intro v9 w9 ho9 hb9; obtain ⟨A9, c9, rfl, i9⟩ := OwnM.mem ho9 HBD.out; have d9 : Below V.heap.size V w9 := (bel_alloc (bel_drew hbel) (.cells #[.int .i64 63, .int .i64 (1 + cl), .int .i64 0, .int .i64 0] 34)).trans (hb9.mono hbel.size); have K9 := bank_Safe c9 f wt i9 (by have := HX.out; simp; omega) (by omega) (by omega); rw [show ([(63, 1 + cl, 0, 0)] ++ l : List PO.Mem) = (63, 1 + cl, 0, 0) :: l from rfl, HNS.out] at K9; replace K9 := Lib.hid K9; clear i9 ho9 hb9; refine hKW.out _ _ ?_ (fun hHeld => ?_); (focus ((try dsimp only); exact hS.out _ (by repeat (first | exact Below.refl _ _ | assumption | refine bel_drew ?_ | refine bel_alloc ?_ _ | refine bel_trans ?_ (by assumption))))); clear hKW KW; (try simp only [Act.put, List.setIfInBounds_toArray, List.set_cons_zero, List.set_cons_succ])
          refine tk_call 10 rfl (by kernel_rfl) (by kernel_rfl) (fun KW hKW => ?_); go_simp; go_at_call 17; refine K9.out.mono ?_; rintro e u1 ⟨rfl, d1⟩; have d10 := bel_trans d9 d1; refine hKW.out _ _ ?_ (fun hHeld => ?_); (focus ((try dsimp only); exact hS.out _ (by repeat (first | exact Below.refl _ _ | assumption | refine bel_drew ?_ | refine bel_alloc ?_ _ | refine bel_trans ?_ (by assumption))))); clear hKW KW; (try simp only [Act.put, List.setIfInBounds_toArray, List.set_cons_zero, List.set_cons_succ])
          refine tk_yes 11 (v := ?_) rfl (by kernel_rfl) (by kernel_rfl) (by kernel_rfl) (fun _ _ _ h => h) (by kernel_rfl) (by assumption) ?_ ?_; rotate_left; (focus (intro w hSw; (try dsimp only at hSw); go_simp; (first | done | (with_reducible rfl)))); (try simp only [Act.put, List.setIfInBounds_toArray, List.set_cons_zero, List.set_cons_succ])
          refine tk_call 12 rfl (by kernel_rfl) (by kernel_rfl) (fun KW hKW => ?_); go_simp; go_at_call 16; refine (law29_works _).mono ?_; rintro e u2 ⟨rfl, d2⟩; have d12 := bel_trans d10 d2; refine hKW.out _ _ ?_ (fun hHeld => ?_); (focus ((try dsimp only); exact hS.out _ (by repeat (first | exact Below.refl _ _ | assumption | refine bel_drew ?_ | refine bel_alloc ?_ _ | refine bel_trans ?_ (by assumption))))); clear hKW KW; (try simp only [Act.put, List.setIfInBounds_toArray, List.set_cons_zero, List.set_cons_succ])
          refine tk_yes 13 (v := ?_) rfl (by kernel_rfl) (by kernel_rfl) (by kernel_rfl) (fun _ _ _ h => h) (by kernel_rfl) (by assumption) ?_ ?_; rotate_left; (focus (intro w hSw; (try dsimp only at hSw); go_simp; (first | done | (with_reducible rfl)))); (try simp only [Act.put, List.setIfInBounds_toArray, List.set_cons_zero, List.set_cons_succ])
          refine tk_yes 14 (v := ?_) rfl (by kernel_rfl) (by kernel_rfl) (by kernel_rfl) (fun _ _ _ h => h) (by kernel_rfl) (by assumption) ?_ ?_; rotate_left; (focus (intro w hSw; (try dsimp only at hSw); go_simp; (first | done | (with_reducible rfl)))); (try simp only [Act.put, List.setIfInBounds_toArray, List.set_cons_zero, List.set_cons_succ])
          refine wpAnyH_done (by kernel_rfl) ?_ _
          go_wp2_with fail
          exact bodyPost_ret (v := .bool true) (by simp [results, Try.results5, go_sem]) rfl ⟨rfl, bel_trans' HB.out d12 HB.out.size⟩

theorem law29_BankNew {A : Option Addr} {n : Nat} {l : List PO.Mem} (c : Nat) (f wt cl : Int) (w : World) (h : MemAt w A n l) (b0 : -9223372036854775808 ≤ f ∧ f ≤ 9223372036854775807) (b1 : -9223372036854775808 ≤ wt ∧ wt ≤ 9223372036854775807) (b2 : 0 ≤ cl ∧ cl ≤ 255) :
    Calls Try.prog 5 #[.agg #[.int .i64 f, .int .i64 wt], .slice A n c, .int .u8 cl] w fun e w' => e = .returned (.bool true) ∧ Below w.heap.size w w' := by
  rcases Nat.lt_or_ge 16 n with hn | hn
  · exact law29_BankNew_long A n c f wt cl w hn
  · exact law29_BankNew_some c f wt cl w h hn b0 b1 b2
end Go.Proofs.Ythmjbfocpdiikaa
/-
  SameMembers of the same; the reference's After, May, Which.
-/
namespace Go.Proofs.Ythmjbfocpdiikaa
open Go.RowKit
set_option linter.unusedVariables false
set_option linter.unusedSimpArgs false
attribute [local go_sem] drewN_alloc drewN_setCell

theorem eql_acc_same (k : Nat) (a0 a1 a2 : Int) (w : World) :
    (Op.equalIn (k + 1 + 1) 32 (.agg #[.int .i64 a0, .int .i64 a1, .int .i64 a2]) (.agg #[.int .i64 a0, .int .i64 a1, .int .i64 a2])).run Try.prog w = .ok true w := by
  have u3 := Try.underlying3
  have a3' := Try.isAgg3
  have z3 := Try.sizeOf3
  have hS : Try.prog.underlying 32 = some (.struct (Try.prog.fieldsOf 32)) := by kernel_rfl
  have hp : Try.prog.stoodInHeld 32 = false := by kernel_rfl
  rw [run_equalIn_agg w (k + 1) 32 _ _ hS hp]
  simp only [Program.fieldsOf, Try.underlying32]
  go_simp
theorem eql_mem_same (i a0 a1 a2 : Int) (w : World) :
    (Op.equalIn 10000 34 (.agg #[.int .i64 i, .int .i64 a0, .int .i64 a1, .int .i64 a2]) (.agg #[.int .i64 i, .int .i64 a0, .int .i64 a1, .int .i64 a2])).run Try.prog w = .ok true w := by
  have u3 := Try.underlying3
  have a3' := Try.isAgg3
  have z3 := Try.sizeOf3
  have z4 : Try.prog.cellsOf 32 = 3 := by kernel_rfl
  have hS : Try.prog.underlying 34 = some (.struct (Try.prog.fieldsOf 34)) := by kernel_rfl
  have hp : Try.prog.stoodInHeld 34 = false := by kernel_rfl
  have HE := fun w => eql_acc_same 9997 a0 a1 a2 w
  rw [show (10000 : Nat) = 9999 + 1 from rfl, run_equalIn_agg w 9999 34 _ _ hS hp]
  simp only [Program.fieldsOf, Try.underlying34]
  go_simp

def SameMRel (w : World) (n : Nat) (i : Value) (wr : World) : Prop := ∃ k : Nat, k ≤ n ∧ i = .int .i64 k ∧ Below w.heap.size w wr
set_option maxHeartbeats 2000000 in
theorem base_SameMembers_same {A B : Option Addr} {n : Nat} {l : List PO.Mem} (c d : Nat) {w : World} (hx : MemAt w A n l) (hy : MemAt w B n l) :
    Calls Try.prog 26 #[.slice A n c, .slice B n d] w fun e w' => e = .returned (.bool true) ∧ Below w.heap.size w w' := by
  have hn := hx.2.1
  have HX := Lib.hid hx
  have HY := Lib.hid hy
  clear hx hy
  go_enter Try.func26, Try.ntmps26
  go_wp2_with fail
  go_loopw [5] (fun i wr => SameMRel w n i wr) (fun i _ => n - (intOf i).toNat)
  case atStart => exact ⟨0, Nat.zero_le _, rfl, Below.refl _ _⟩
  case round =>
    obtain ⟨k, hk, rfl, hbel⟩ := hrel
    have j1 : (0 : Int) ≤ (k : Int) := by omega
    by_cases hlt : (k : Int) < n
    · obtain ⟨b, off, rfl, hb, hc⟩ := HX.out.2.2.2 (by omega)
      obtain ⟨b', off', rfl, hb', hc'⟩ := HY.out.2.2.2 (by omega)
      obtain ⟨x0, x1, x2, x3⟩ := (hc k (by omega)).keep hbel hb
      obtain ⟨y0, y1, y2, y3⟩ := (hc' k (by omega)).keep hbel hb'
      generalize l.getD k PO.m0 = m at *
      have EQ := eql_mem_same m.1 m.2.1 m.2.2.1 m.2.2.2
      clear hc hc'
      go_wp2_with fail
      go_quiet (fail)
      go_wp2_with fail
      go_roundw
      case rel => exact ⟨k + 1, by omega, by go_num, (by repeat (first | exact Below.refl _ _ | assumption | refine bel_drew ?_ | refine bel_drewN ?_ _ | refine bel_alloc ?_ _ | refine bel_set ?_ (by first | (dsimp only; omega) | (simp; done) | (simp; omega)) _ | refine bel_trans ?_ (by assumption)))⟩
      case measure => simp [intOf]; omega
    · go_wp2_with fail
      go_ret
      exact ⟨rfl, (by repeat (first | exact Below.refl _ _ | assumption | refine bel_drew ?_ | refine bel_drewN ?_ _ | refine bel_alloc ?_ _ | refine bel_set ?_ (by first | (dsimp only; omega) | (simp; done) | (simp; omega)) _ | refine bel_trans ?_ (by assumption)))⟩

theorem MemAt.set4 {w : World} {g n i : Nat} {l : List PO.Mem} (h : MemAt w (some ⟨g, 0, none⟩) n l) (hi : i < n) (c h' r : Int) (hb : Bd c ∧ Bd h' ∧ Bd r) :
    MemAt ((((w.setCell ⟨g, i * 4, none⟩ (.int .i64 (l.getD i PO.m0).1)).setCell ⟨g, i * 4 + 1, none⟩ (.int .i64 c)).setCell ⟨g, i * 4 + 2, none⟩ (.int .i64 h')).setCell ⟨g, i * 4 + 3, none⟩ (.int .i64 r)) (some ⟨g, 0, none⟩) n (l.set i ((l.getD i PO.m0).1, c, h', r)) := by
  refine MemAt.set3 ?_ hi c h' r hb
  obtain ⟨g', o', e, hg, hc⟩ := h.2.2.2 (by omega)
  obtain ⟨rfl, rfl⟩ : g = g' ∧ 0 = o' := by simpa using e
  refine ⟨h.1, h.2.1, h.2.2.1, fun h0 => ⟨g, 0, rfl, by simpa using hg, fun j hj => ?_⟩⟩
  have key : ∀ o, (w.setCell ⟨g, i * 4, none⟩ (.int .i64 (l.getD i PO.m0).1)).cell? ⟨g, o, none⟩ = w.cell? ⟨g, o, none⟩ := fun o => by
    by_cases e : o = i * 4
    · have x0 := (hc i hi).1
      rw [Nat.zero_add] at x0
      rw [e, World.cell?_setCell_same _ _ _ x0, x0]
    · exact World.cell?_setCell_other _ _ _ _ (by first | (simp; done) | (simp; exact fun h => e h.symm))
  obtain ⟨x0, x1, x2, x3⟩ := hc j hj
  exact ⟨(key _).trans x0, (key _).trans x1, (key _).trans x2, (key _).trans x3⟩
theorem OwnM.keep {B : Nat} {w w' : World} {v : Value} {l : List PO.Mem} (h : OwnM B w v l) (k : Below w.heap.size w w') : OwnM B w' v l := by
  refine ⟨h.1, ?_⟩
  rcases h.2 with ⟨rfl, e⟩ | ⟨g, cap, cur, rfl, hb, hg, r⟩
  · exact .inl ⟨rfl, e⟩
  · exact .inr ⟨g, cap, cur, rfl, hb, (k.block g (Array.getElem?_eq_some_iff.1 hg).1).trans hg, r⟩
theorem app_listM {ops : Array Oper} {rest : List Oper} {o : Oper} {a : Act} {Q : Exit → Act → World → Prop} {w : World} (hgd : o.guard = none) (s x : Operand)
    (ho : o.op = .call { callee := .builtin .append, args := #[s, x], argTypes := #[23, 23] })
    (B : Nat) (v : Value) (l : List PO.Mem) (hsv : a.eval s = v) (hown : OwnM B w v l)
    (A : Option Addr) (m c : Nat) (l2 : List PO.Mem) (hx : a.eval x = .slice A m c) (hs : SrcS 4 w A m (cellsM l2)) (hlen : l.length + m ≤ 1048576) (hbase : B ≤ w.heap.size)
    (h : ∀ v' w', OwnM B w' v' (l ++ l2) → Below B w w' → wpList Try.prog ops Q rest (a.put o.dst v') w') : wpList Try.prog ops Q (o :: rest) a w :=
  wpList_plain hgd fun _ hK => app_operM s x ho B v l hsv hown A m c l2 hx hs hlen hbase (fun v' w' h2 h3 => hK _ _ (h v' w' h2 h3))
/-- Of members of the call's own: the block. -/
theorem OwnM.block {B : Nat} {w : World} {v : Value} {l : List PO.Mem} (h : OwnM B w v l) (hb : ∀ m ∈ l, MemBd m) (h0 : 0 < l.length) : ∃ g c, v = .slice (some ⟨g, 0, none⟩) l.length c ∧ B ≤ g ∧ MemAt w (some ⟨g, 0, none⟩) l.length l ∧ ∀ o, w.frozen? ⟨g, o, none⟩ = false := by
  have hh := h
  rcases h.2 with ⟨rfl, e⟩ | ⟨g, cap, cur, rfl, hg, hgg, hn, hcm, hcs, hx⟩
  · omega
  · obtain ⟨A, c, e, i⟩ := OwnM.mem hh hb
    cases e
    exact ⟨g, cap, rfl, hg, i, fun o => by simp only [World.frozen?, hgg]; simp⟩

set_option maxRecDepth 100000 in
set_option maxHeartbeats 8000000 in
theorem ref29_After {A : Option Addr} {n : Nat} {l : List PO.Mem} (c : Nat) (at' x : Int) {w : World} (h : MemAt w A n l) (hn : n ≤ 1000) (ba : -9223372036854775808 ≤ at' ∧ at' ≤ 9223372036854775807) (bx : -9223372036854775808 ≤ x ∧ x ≤ 9223372036854775807) :
    Calls Try.prog 24 #[.slice A n c, .int .i64 at', .int .i64 x] w (GivesMem w (PO.after l at' x)) := by
  have e : PO.after l at' x = (if at' < 0 ∨ (l.length : Int) ≤ at' then ([], false) else if (PO.grant (l.getD at'.toNat PO.m0) x).2 ≠ 0 then ([], false) else (l.set at'.toNat ((l.getD at'.toNat PO.m0).1, (PO.grant (l.getD at'.toNat PO.m0) x).1), true)) := rfl
  rw [h.1] at e
  generalize PO.after l at' x = R at *
  by_cases h0 : at' < 0
  · rw [if_pos (.inl h0)] at e
    subst e
    clear h
    go_enter Try.func24, Try.ntmps24
    go_wp2_with fail
    exact bodyPost_ret (v := .tuple #[.slice none 0 0, .bool false]) (by simp [results, Try.results24, go_sem]) rfl ⟨none, 0, 0, rfl, MemAt.nil, (by repeat (first | exact Below.refl _ _ | assumption | refine bel_drew ?_ | refine bel_drewN ?_ _ | refine bel_alloc ?_ _ | refine bel_set ?_ (by first | (dsimp only; omega) | (simp; done) | (simp; omega)) _ | refine bel_trans ?_ (by assumption)))⟩
  · by_cases h1 : (n : Int) ≤ at'
    · rw [if_pos (.inr h1)] at e
      subst e
      clear h
      go_enter Try.func24, Try.ntmps24
      go_wp2_with fail
      exact bodyPost_ret (v := .tuple #[.slice none 0 0, .bool false]) (by simp [results, Try.results24, go_sem]) rfl ⟨none, 0, 0, rfl, MemAt.nil, (by repeat (first | exact Below.refl _ _ | assumption | refine bel_drew ?_ | refine bel_drewN ?_ _ | refine bel_alloc ?_ _ | refine bel_set ?_ (by first | (dsimp only; omega) | (simp; done) | (simp; omega)) _ | refine bel_trans ?_ (by assumption)))⟩
    · rw [if_neg (by omega)] at e
      obtain ⟨k, rfl⟩ : ∃ k : Nat, at' = k := ⟨at'.toNat, by omega⟩
      rw [Int.toNat_natCast] at e
      have hk : k < n := by omega
      obtain ⟨b, off, rfl, hb, hcs⟩ := h.2.2.2 (by omega)
      obtain ⟨x0, x1, x2, x3⟩ := hcs k hk
      have bd := h.bd hk
      have hset := fun (X : World) (g : Nat) (hX : MemAt X (some ⟨g, 0, none⟩) n l) (c h' r : Int) (hb : Bd c ∧ Bd h' ∧ Bd r) => hX.set4 hk c h' r hb
      obtain ⟨m, hm⟩ : ∃ m, l.getD k PO.m0 = m := ⟨_, rfl⟩
      rw [hm] at x0 x1 x2 x3 bd e
      simp only [hm] at hset
      have KG := fun W => ref26_Do2 m.2.1 m.2.2.1 m.2.2.2 x W bd.2.1 bd.2.2.1 bd.2.2.2 bx
      have hgr : PO.grant m x = PA.doo 2 m.2.1 m.2.2.1 m.2.2.2 x := rfl
      rw [hgr] at e
      have hbd : (PA.doo 2 m.2.1 m.2.2.1 m.2.2.2 x).2 = 0 → Bd (PA.doo 2 m.2.1 m.2.2.1 m.2.2.2 x).1.1 ∧ Bd (PA.doo 2 m.2.1 m.2.2.1 m.2.2.2 x).1.2.1 ∧ Bd (PA.doo 2 m.2.1 m.2.2.1 m.2.2.2 x).1.2.2 := fun h => doo_bd h
      generalize PA.doo 2 m.2.1 m.2.2.1 m.2.2.2 x = G at *
      obtain ⟨⟨g1, g2, g3⟩, g4⟩ := G
      dsimp only at KG e hbd
      replace KG := Lib.hid KG
      have H := Lib.hid h
      have HCM : Hid (MemCells w b (off + k * 4) m) := Lib.hid (by rw [← hm]; exact hcs k hk)
      have hlt : (k : Int) < (n : Int) := by omega
      have j0 : (0 : Int) ≤ (k : Int) := by omega
      clear hcs hm hgr bd h
      by_cases hg : g4 = 0
      · rw [if_neg (by simp [hg])] at e
        have hbd' := hbd hg
        subst e hg
        have HBD := Lib.hid hbd'
        have HSET := Lib.hid hset
        clear hbd hbd' hset
        go_enter Try.func24, Try.ntmps24
        go_wp2_with fail
        refine (KG.out _).mono ?_
        rintro e w1 ⟨rfl, h1⟩
        have OE : Hid (OwnM (w1.heap.size + 1) ((w1.alloc (.cells #[.int .i64 g1, .int .i64 g2, .int .i64 g3] 32)).alloc (.cells #[] 34)) (.slice (some ⟨w1.heap.size + 1, 0, none⟩) 0 0) []) := Lib.hid (by
          have q := own_emptyS 4 (w1.alloc (.cells #[.int .i64 g1, .int .i64 g2, .int .i64 g3] 32)) 34
          simp only [World.size_alloc] at q
          exact q)
        clear x0 x1 x2 x3
        go_wp2_with (at_builtin; refine app_listM rfl (.tmp 31) (.tmp 32) rfl (w1.heap.size + 1) _ [] rfl OE.out _ n c l rfl (srcM_of (H.out.keep (by exact (by repeat (first | exact Below.refl _ _ | assumption | refine bel_drew ?_ | refine bel_drewN ?_ _ | refine bel_alloc ?_ _ | refine bel_set ?_ (by first | (dsimp only; omega) | (simp; done) | (simp; omega)) _ | refine bel_trans ?_ (by assumption)))))) (by simp; omega) (by simp) ?_; intro v5 w5 ho5 hb5; rw [List.nil_append] at ho5; obtain ⟨g, c5, rfl, hg5, i5, f5⟩ := OwnM.block ho5 H.out.2.2.1 (by rw [H.out.1]; omega); rw [H.out.1] at i5)
        have d5 : Below w.heap.size w w5 := bel_trans' (show Below w.heap.size w _ from (by repeat (first | exact Below.refl _ _ | assumption | refine bel_drew ?_ | refine bel_drewN ?_ _ | refine bel_alloc ?_ _ | refine bel_set ?_ (by first | (dsimp only; omega) | (simp; done) | (simp; omega)) _ | refine bel_trans ?_ (by assumption)))) hb5 (by have := h1.size; omega)
        obtain ⟨x0, x1, x2, x3⟩ := HCM.out.keep d5 hb
        have a0 : w5.cell? ⟨w1.heap.size, 0, none⟩ = some (.int .i64 g1) := (hb5.cell (by dsimp only; omega)).trans (by simp [go_sem])
        have a1 : w5.cell? ⟨w1.heap.size, 1, none⟩ = some (.int .i64 g2) := (hb5.cell (by dsimp only; omega)).trans (by simp [go_sem])
        have a2 : w5.cell? ⟨w1.heap.size, 2, none⟩ = some (.int .i64 g3) := (hb5.cell (by dsimp only; omega)).trans (by simp [go_sem])
        obtain ⟨gq, oq, eq, hgq, hcq⟩ := i5.2.2.2 (by omega)
        obtain ⟨rfl, rfl⟩ : g = gq ∧ 0 = oq := by simpa using eq
        obtain ⟨y0, y1, y2, y3⟩ := hcq k hk
        simp only [Nat.zero_add] at y0 y1 y2 y3
        have f50 := f5 (k * 4)
        have f51 := f5 (k * 4 + 1)
        have f52 := f5 (k * 4 + 2)
        have f53 := f5 (k * 4 + 3)
        have HS := Lib.hid (HSET.out w5 g i5 g1 g2 g3 HBD.out)
        have hsz := h1.size
        rw [H.out.1]
        clear f5 hcq i5 ho5 hb5
        have hcd : ∀ a, ({ heap := w5.heap, tape := w5.tape, drawn := w5.drawn + 1, os := w5.os, output := w5.output } : World).cell? a = w5.cell? a := fun _ => rfl
        have hcf : ∀ a, ({ heap := w5.heap, tape := w5.tape, drawn := w5.drawn + 1, os := w5.os, output := w5.output } : World).frozen? a = w5.frozen? a := fun _ => rfl
        go_still_tail 10, (by kernel_rfl)
        go_wp2_with fail
        have hbF : Below w.heap.size w ((((w5.setCell ⟨g, k * 4, none⟩ (.int .i64 m.1)).setCell ⟨g, k * 4 + 1, none⟩ (.int .i64 g1)).setCell ⟨g, k * 4 + 2, none⟩ (.int .i64 g2)).setCell ⟨g, k * 4 + 3, none⟩ (.int .i64 g3)) := (((d5.setCell (by dsimp only; omega) _).setCell (by dsimp only; omega) _).setCell (by dsimp only; omega) _).setCell (by dsimp only; omega) _
        first
          | exact bodyPost_ret (v := .tuple #[.slice (some ⟨g, 0, none⟩) n c5, .bool true]) (by simp [results, Try.results24, go_sem]) rfl ⟨_, n, c5, rfl, HS.out, hbF⟩
          | exact bodyPost_ret (v := .tuple #[.slice (some ⟨g, 0, none⟩) n c5, .bool true]) (by simp [results, Try.results24, go_sem]) rfl ⟨_, n, c5, rfl, HS.out.keep (Below.refl _ _).drew, hbF.drew⟩
      · rw [if_pos hg] at e
        subst e
        have q1 : (g4 != 0) = true := by simpa using hg
        clear hset hbd hg
        go_enter Try.func24, Try.ntmps24
        go_wp2_with fail
        refine (KG.out _).mono ?_
        rintro e w1 ⟨rfl, h1⟩
        go_wp2_with fail
        exact bodyPost_ret (v := .tuple #[.slice none 0 0, .bool false]) (by simp [results, Try.results24, go_sem]) rfl ⟨none, 0, 0, rfl, MemAt.nil, (by repeat (first | exact Below.refl _ _ | assumption | refine bel_drew ?_ | refine bel_drewN ?_ _ | refine bel_alloc ?_ _ | refine bel_set ?_ (by first | (dsimp only; omega) | (simp; done) | (simp; omega)) _ | refine bel_trans ?_ (by assumption)))⟩

theorem bmay_eq {f w a x : Int} {l : List PO.Mem} (h1 : 1 ≤ x) (h2 : x ≤ f) (h3 : f ≤ 1048576) (h4 : w ≤ 1048576 - f) : PO.bmay f w l a x = ((PO.after l a x).2 && PO.bsafe (f - x) w (PO.after l a x).1) := by
  unfold PO.bmay
  by_cases hw : w < 0
  · rw [if_pos (.inl (by simp [PO.bad, hw]))]
    have : PO.bsafe (f - x) w (PO.after l a x).1 = false := by
      unfold PO.bsafe
      rw [if_pos (by simp [PO.bad, hw])]
    rw [this, Bool.and_false]
  · rw [if_neg]
    rintro (h | h)
    · rw [PO.bad_iff.2 ⟨by omega, by omega, by omega, by omega⟩] at h; cases h
    · omega
theorem bmay_no {f w a x : Int} {l : List PO.Mem} (h : x < 1 ∨ f < x ∨ 1048576 < f ∨ 1048576 - f < w) : PO.bmay f w l a x = false := by
  cases hb : PO.bmay f w l a x
  · rfl
  · obtain ⟨k, _, _, h1, h2, h3, _⟩ := bmay_facts hb
    have := PO.bad_iff.1 h1
    omega
set_option maxRecDepth 100000 in
theorem ref29_May {A : Option Addr} {n : Nat} {l : List PO.Mem} (c : Nat) (f w at' x : Int) {W : World} (h : MemAt W A n l) (hn : n ≤ 1000) (bf : -9223372036854775808 ≤ f ∧ f ≤ 9223372036854775807) (bw : -9223372036854775808 ≤ w ∧ w ≤ 9223372036854775807) (ba : -9223372036854775808 ≤ at' ∧ at' ≤ 9223372036854775807) (bx : -9223372036854775808 ≤ x ∧ x ≤ 9223372036854775807) :
    Calls Try.prog 25 #[.int .i64 f, .int .i64 w, .slice A n c, .int .i64 at', .int .i64 x] W fun e W' => e = .returned (.bool (PO.bmay f w l at' x)) ∧ Below W.heap.size W W' := by
  have K2 : Hid (∀ X, Below W.heap.size W X → Calls Try.prog 24 #[.slice A n c, .int .i64 at', .int .i64 x] X (GivesMem X (PO.after l at' x))) := Lib.hid (fun X hX => ref29_After c at' x (h.keep hX) hn ba bx)
  have hlen := after_len l at' x
  rw [h.1] at hlen
  clear h
  by_cases h1 : x < 1
  · rw [bmay_no (.inl h1)]
    have g1 : decide (x < 1) = true := decide_eq_true h1
    clear K2
    go_enter Try.func25, Try.ntmps25
    go_wp2_with fail
    exact bodyPost_ret (v := .bool false) (by simp [results, Try.results25, go_sem]) rfl ⟨rfl, (by repeat (first | exact Below.refl _ _ | assumption | refine bel_drew ?_ | refine bel_drewN ?_ _ | refine bel_alloc ?_ _ | refine bel_set ?_ (by first | (dsimp only; omega) | (simp; done) | (simp; omega)) _ | refine bel_trans ?_ (by assumption)))⟩
  · have g1 : decide (x < 1) = false := decide_eq_false h1
    by_cases h2 : f < x
    · rw [bmay_no (.inr (.inl h2))]
      have g2 : decide (f < x) = true := decide_eq_true h2
      clear K2
      go_enter Try.func25, Try.ntmps25
      go_wp2_with fail
      exact bodyPost_ret (v := .bool false) (by simp [results, Try.results25, go_sem]) rfl ⟨rfl, (by repeat (first | exact Below.refl _ _ | assumption | refine bel_drew ?_ | refine bel_drewN ?_ _ | refine bel_alloc ?_ _ | refine bel_set ?_ (by first | (dsimp only; omega) | (simp; done) | (simp; omega)) _ | refine bel_trans ?_ (by assumption)))⟩
    · have g2 : decide (f < x) = false := decide_eq_false h2
      by_cases h3 : 1048576 < f
      · rw [bmay_no (.inr (.inr (.inl h3)))]
        have g3 : decide (1048576 < f) = true := decide_eq_true h3
        clear K2
        go_enter Try.func25, Try.ntmps25
        go_wp2_with fail
        exact bodyPost_ret (v := .bool false) (by simp [results, Try.results25, go_sem]) rfl ⟨rfl, (by repeat (first | exact Below.refl _ _ | assumption | refine bel_drew ?_ | refine bel_drewN ?_ _ | refine bel_alloc ?_ _ | refine bel_set ?_ (by first | (dsimp only; omega) | (simp; done) | (simp; omega)) _ | refine bel_trans ?_ (by assumption)))⟩
      · have g3 : decide (1048576 < f) = false := decide_eq_false h3
        by_cases h4 : 1048576 - f < w
        · rw [bmay_no (.inr (.inr (.inr h4)))]
          have g4 : decide (1048576 - f < w) = true := decide_eq_true h4
          clear K2
          go_enter Try.func25, Try.ntmps25
          go_wp2_with fail
          exact bodyPost_ret (v := .bool false) (by simp [results, Try.results25, go_sem]) rfl ⟨rfl, (by repeat (first | exact Below.refl _ _ | assumption | refine bel_drew ?_ | refine bel_drewN ?_ _ | refine bel_alloc ?_ _ | refine bel_set ?_ (by first | (dsimp only; omega) | (simp; done) | (simp; omega)) _ | refine bel_trans ?_ (by assumption)))⟩
        · have g4 : decide (1048576 - f < w) = false := decide_eq_false h4
          rw [bmay_eq (by omega) (by omega) (by omega) (by omega)]
          have wx : IntKind.i64.wrap (f - x) = f - x := IntWalk.i64_in _ (by omega)
          generalize PO.after l at' x = G at *
          obtain ⟨l', q⟩ := G
          dsimp only at hlen ⊢
          have K3 : Hid (∀ X A' n' c', MemAt X A' n' l' → Calls Try.prog 18 #[.int .i64 (f - x), .int .i64 w, .slice A' n' c'] X fun e W' => e = .returned (.bool (PO.bsafe (f - x) w l')) ∧ Below X.heap.size X W') := Lib.hid (fun X A' n' c' hM => ref29_Safe c' (f - x) w hM (by have := hM.1; omega) (by omega) bw)
          generalize PO.bsafe (f - x) w l' = r at *
          clear hlen
          rcases q with _ | _
          · go_enter Try.func25, Try.ntmps25
            go_wp2_with fail
            refine (K2.out _ (by exact (by repeat (first | exact Below.refl _ _ | assumption | refine bel_drew ?_ | refine bel_drewN ?_ _ | refine bel_alloc ?_ _ | refine bel_set ?_ (by first | (dsimp only; omega) | (simp; done) | (simp; omega)) _ | refine bel_trans ?_ (by assumption))))).mono ?_
            rintro e w2 ⟨A2, n2, c2, rfl, i2, h2⟩
            clear i2
            go_wp2_with fail
            exact bodyPost_ret (v := .bool false) (by simp [results, Try.results25, go_sem]) rfl ⟨by simp, (by repeat (first | exact Below.refl _ _ | assumption | refine bel_drew ?_ | refine bel_drewN ?_ _ | refine bel_alloc ?_ _ | refine bel_set ?_ (by first | (dsimp only; omega) | (simp; done) | (simp; omega)) _ | refine bel_trans ?_ (by assumption)))⟩
          · go_enter Try.func25, Try.ntmps25
            go_wp2_with fail
            refine (K2.out _ (by exact (by repeat (first | exact Below.refl _ _ | assumption | refine bel_drew ?_ | refine bel_drewN ?_ _ | refine bel_alloc ?_ _ | refine bel_set ?_ (by first | (dsimp only; omega) | (simp; done) | (simp; omega)) _ | refine bel_trans ?_ (by assumption))))).mono ?_
            rintro e w2 ⟨A2, n2, c2, rfl, i2, h2⟩
            have K4 := Lib.hid (K3.out _ _ _ c2 i2)
            clear i2
            go_wp2_with fail
            refine K4.out.mono ?_
            rintro e w3 ⟨rfl, h3⟩
            go_wp2_with fail
            exact bodyPost_ret (v := .bool r) (by simp [results, Try.results25, go_sem]) rfl ⟨by simp, (by repeat (first | exact Below.refl _ _ | assumption | refine bel_drew ?_ | refine bel_drewN ?_ _ | refine bel_alloc ?_ _ | refine bel_set ?_ (by first | (dsimp only; omega) | (simp; done) | (simp; omega)) _ | refine bel_trans ?_ (by assumption)))⟩

def which (f w : Int) (l : List PO.Mem) (x : Int) (k : Nat) : List Nat := (List.range k).filter (fun i => PO.bmay f w l i x)
theorem which_succ (f w : Int) (l : List PO.Mem) (x : Int) (k : Nat) : which f w l x (k + 1) = if PO.bmay f w l k x = true then which f w l x k ++ [k] else which f w l x k := by
  unfold which
  rw [List.range_succ, List.filter_append]
  split <;> simp_all
theorem which_len (f w : Int) (l : List PO.Mem) (x : Int) (k : Nat) : (which f w l x k).length ≤ k := by
  have := List.length_filter_le (fun i : Nat => PO.bmay f w l i x) (List.range k)
  rwa [List.length_range] at this
def WhichRel (W : World) (f w : Int) (l : List PO.Mem) (x : Int) (n : Nat) (out i : Value) (wr : World) : Prop :=
  ∃ (k : Nat) (A : Option Addr) (c : Nat), k ≤ n ∧ i = .int .i64 k ∧ out = .slice A (which f w l x k).length c ∧ OwnI W.heap.size wr (.slice A (which f w l x k).length c) (PO.ints (which f w l x k)) ∧ Below W.heap.size W wr
set_option maxRecDepth 100000 in
set_option maxHeartbeats 4000000 in
theorem ref29_Which {A : Option Addr} {n : Nat} {l : List PO.Mem} (c : Nat) (f w x : Int) {W : World} (h : MemAt W A n l) (hn : n ≤ 1000) (bf : -9223372036854775808 ≤ f ∧ f ≤ 9223372036854775807) (bw : -9223372036854775808 ≤ w ∧ w ≤ 9223372036854775807) (bx : -9223372036854775808 ≤ x ∧ x ≤ 9223372036854775807) :
    Calls Try.prog 29 #[.int .i64 f, .int .i64 w, .slice A n c, .int .i64 x] W fun e W' => ∃ v, e = .returned v ∧ OwnI W.heap.size W' v (PO.ints (which f w l x n)) ∧ Below W.heap.size W W' := by
  have KM : Hid (∀ X, Below W.heap.size W X → ∀ k : Nat, k < n → Calls Try.prog 25 #[.int .i64 f, .int .i64 w, .slice A n c, .int .i64 (k : Int), .int .i64 x] X fun e W' => e = .returned (.bool (PO.bmay f w l k x)) ∧ Below X.heap.size X W') := Lib.hid (fun X hX k hk => ref29_May c f w k x (h.keep hX) hn bf bw (by omega) bx)
  clear h
  go_enter Try.func29, Try.ntmps29
  go_wp2_with fail
  go_loopw [9, 10] (fun out i wr => WhichRel W f w l x n out i wr) (fun _ i _ => n - (intOf i).toNat)
  case atStart => exact ⟨0, none, 0, Nat.zero_le _, rfl, rfl, OwnI.nil _ _, (by repeat (first | exact Below.refl _ _ | assumption | refine bel_drew ?_ | refine bel_drewN ?_ _ | refine bel_alloc ?_ _ | refine bel_set ?_ (by first | (dsimp only; omega) | (simp; done) | (simp; omega)) _ | refine bel_trans ?_ (by assumption)))⟩
  case round =>
    obtain ⟨k, A2, c2, hk, rfl, rfl, ho, hbel⟩ := hrel
    have HO := Lib.hid ho
    clear ho
    have j1 : (0 : Int) ≤ (k : Int) := by omega
    have hwl := which_len f w l x k
    by_cases hlt : (k : Int) < n
    · have K := KM.out wr hbel k (by omega)
      have hws := which_succ f w l x k
      cases hb : PO.bmay f w l k x
      · rw [hb] at K hws
        rw [if_neg (by simp)] at hws
        replace K := Lib.hid K
        generalize which f w l x k = D at *
        have HWS := Lib.hid hws
        clear hb hws
        go_wp2_with fail
        refine K.out.mono ?_
        rintro e w1 ⟨rfl, h1⟩
        go_wp2_with fail
        go_roundw
        case rel => exact ⟨k + 1, A2, c2, by omega, by go_num, by rw [HWS.out], by rw [HWS.out]; exact HO.out.keep h1, (by repeat (first | exact Below.refl _ _ | assumption | refine bel_drew ?_ | refine bel_drewN ?_ _ | refine bel_alloc ?_ _ | refine bel_set ?_ (by first | (dsimp only; omega) | (simp; done) | (simp; omega)) _ | refine bel_trans ?_ (by assumption)))⟩
        case measure => simp [intOf]; omega
      · rw [hb] at K hws
        rw [if_pos rfl] at hws
        replace K := Lib.hid K
        generalize which f w l x k = D at *
        have HWS := Lib.hid hws
        clear hb hws
        go_wp2_with fail
        refine K.out.mono ?_
        rintro e w1 ⟨rfl, h1⟩
        have b1 := bel_trans hbel h1
        go_wp2_with (at_builtin; refine app_listI rfl (.tmp 23) (.tmp 25) rfl W.heap.size _ (PO.ints D) rfl (HO.out.keep (bel_alloc h1 _)) (some ⟨w1.heap.size, 0, none⟩) 1 1 [(k : Int)] rfl (src_oneI (by simp [go_sem])) (by rw [PO.ints_len]; omega) (by have := b1.size; simp; omega) ?_; intro v9 w9 ho9 hb9; rw [← PO.ints_snoc] at ho9; obtain ⟨A9, c9, rfl, _⟩ := ho9.slice; replace ho9 := Lib.hid ho9; have b9 := bel_trans' (bel_alloc b1 (.cells #[.int .i64 (k : Int)] 3)) hb9 (Nat.le_refl _))
        go_roundw
        case rel => exact ⟨k + 1, A9, c9, by omega, by go_num, by rw [HWS.out, List.length_append]; rfl, by rw [HWS.out]; exact ho9.out, b9⟩
        case measure => simp [intOf]; omega
    · obtain rfl : k = n := by omega
      go_wp2_with fail
      go_ret
      exact ⟨_, rfl, HO.out, (by repeat (first | exact Below.refl _ _ | assumption | refine bel_drew ?_ | refine bel_drewN ?_ _ | refine bel_alloc ?_ _ | refine bel_set ?_ (by first | (dsimp only; omega) | (simp; done) | (simp; omega)) _ | refine bel_trans ?_ (by assumption)))⟩
end Go.Proofs.Ythmjbfocpdiikaa
/-
  bank.Which.
-/
namespace Go.Proofs.Ythmjbfocpdiikaa
open Go.RowKit
set_option linter.unusedVariables false
set_option linter.unusedSimpArgs false
attribute [local go_sem] drewN_alloc drewN_setCell

theorem which_pred {A : Option Addr} {n : Nat} {l : List PO.Mem} (c p : Nat) (f w x i : Int) {X : World} (h : MemAt X A n l) (hn : n ≤ 1000) (bf : -9223372036854775808 ≤ f ∧ f ≤ 9223372036854775807) (bw : -9223372036854775808 ≤ w ∧ w ≤ 9223372036854775807) (bi : -9223372036854775808 ≤ i ∧ i ≤ 9223372036854775807) (bx : -9223372036854775808 ≤ x ∧ x ≤ 9223372036854775807)
    (c0 : X.cell? ⟨p, 0, none⟩ = some (.int .i64 f)) (c1 : X.cell? ⟨p + 1, 0, none⟩ = some (.int .i64 w)) (c2 : X.cell? ⟨p + 1 + 1, 0, none⟩ = some (.slice A n c)) (c3 : X.cell? ⟨p + 1 + 1 + 1, 0, none⟩ = some (.int .i64 x)) :
    Calls Try.prog 61 #[.int .i64 i, .pointer (some ⟨p, 0, none⟩), .pointer (some ⟨p + 1, 0, none⟩), .pointer (some ⟨p + 1 + 1, 0, none⟩), .pointer (some ⟨p + 1 + 1 + 1, 0, none⟩)] X fun e W' => e = .returned (.bool (!(PO.bmay f w l i x))) ∧ Below X.heap.size X W' := by
  have K := Lib.hid (bank_May c f w i x h hn bf bw bi bx)
  generalize PO.bmay f w l i x = r at *
  clear h
  go_enter Try.func61, Try.ntmps61
  go_wp2_with fail
  refine K.out.mono ?_
  rintro e w1 ⟨rfl, h1⟩
  go_wp2_with fail
  exact bodyPost_ret (v := .bool (!r)) (by simp [results, Try.results61, go_sem]) rfl ⟨rfl, (by repeat (first | exact Below.refl _ _ | assumption | refine bel_drew ?_ | refine bel_drewN ?_ _ | refine bel_alloc ?_ _ | refine bel_set ?_ (by first | (dsimp only; omega) | (simp; done) | (simp; omega)) _ | refine bel_trans ?_ (by assumption)))⟩

def FirstRel (w : World) (p : Int → Bool) (xs : List Int) (n : Nat) (i : Value) (wr : World) : Prop :=
  ∃ k : Nat, k ≤ n ∧ i = .int .i64 k ∧ (∀ j, j < k → p (xs.getD j 0) = false) ∧ Below w.heap.size w wr
set_option maxHeartbeats 4000000 in
theorem ints_IndexFunc {A : Option Addr} {n : Nat} {xs : List Int} (c g : Nat) (lb : Array Value) (p : Int → Bool) {w : World} (h : IntsAt w A n xs)
    (eg : ∀ args w, (callFunc g args).run Try.prog w = .ok (.enter g args) w)
    (hp : ∀ j, j < n → ∀ W, Below w.heap.size w W → Calls Try.prog g (#[.int .i64 (xs.getD j 0)] ++ lb) W fun e w' => e = .returned (.bool (p (xs.getD j 0))) ∧ Below W.heap.size W w') :
    Calls Try.prog 79 #[.slice A n c, .func (.func g) #[] lb] w fun e w' => ∃ r : Int, e = .returned (.int .i64 r) ∧ Below w.heap.size w w' ∧ ((r = -1 ∧ ∀ j, j < n → p (xs.getD j 0) = false) ∨ ∃ k : Nat, k < n ∧ r = k ∧ p (xs.getD k 0) = true ∧ ∀ j, j < k → p (xs.getD j 0) = false) := by
  have HX := Lib.hid h.1
  have HN := h.2.1
  have HC := Lib.hid h.2.2
  have HP := Lib.hid hp
  have hcf : ∀ m w, (callFunc g (#[m] ++ lb)).run Try.prog w = .ok (.enter g (#[m] ++ lb)) w := fun m w => eg _ w
  clear h hp
  go_enter Try.func79, Try.ntmps79
  go_wp2_with fail
  go_loopw [8] (fun i wr => FirstRel w p xs n i wr) (fun i _ => n - (intOf i).toNat)
  case atStart => exact ⟨0, Nat.zero_le _, rfl, fun j hj => absurd hj (by omega), Below.refl _ _⟩
  case round =>
    obtain ⟨k, hk, rfl, hnot, hbel⟩ := hrel
    have HNOT := Lib.hid hnot
    clear hnot
    have j1 : (0 : Int) ≤ (k : Int) := by omega
    by_cases hlt : (k : Int) < n
    · obtain ⟨b, off, rfl, hb, hcs⟩ := HC.out (by omega)
      have x0 := (hbel.cell (p := ⟨b, off + k, none⟩) hb).trans (hcs k (by omega))
      have KP := HP.out k (by omega) wr hbel
      obtain ⟨y, hy⟩ : ∃ y, xs.getD k 0 = y := ⟨_, rfl⟩
      rw [hy] at x0 KP
      have HY := Lib.hid hy
      clear hy hcs
      rcases hq : p y with _ | _
      · rw [hq] at KP
        have HE : Hid (∀ j, j < k + 1 → p (xs.getD j 0) = false) := Lib.hid (fun j hj => by
          rcases Nat.lt_or_ge j k with h1 | h1
          · exact HNOT.out j h1
          · obtain rfl : j = k := by omega
            rw [HY.out]; exact hq)
        replace KP := Lib.hid KP
        clear hq
        go_wp2_with fail
        refine KP.out.mono ?_
        rintro e w1 ⟨rfl, h1⟩
        go_wp2_with fail
        go_roundw
        case rel => exact ⟨k + 1, by omega, by go_num, HE.out, (by repeat (first | exact Below.refl _ _ | assumption | refine bel_drew ?_ | refine bel_drewN ?_ _ | refine bel_alloc ?_ _ | refine bel_set ?_ (by first | (dsimp only; omega) | (simp; done) | (simp; omega)) _ | refine bel_trans ?_ (by assumption)))⟩
        case measure => simp [intOf]; omega
      · rw [hq] at KP
        have HE : Hid (p (xs.getD k 0) = true) := Lib.hid (by rw [HY.out]; exact hq)
        replace KP := Lib.hid KP
        clear hq
        go_wp2_with fail
        refine KP.out.mono ?_
        rintro e w1 ⟨rfl, h1⟩
        go_wp2_with fail
        go_ret
        exact ⟨_, rfl, (by repeat (first | exact Below.refl _ _ | assumption | refine bel_drew ?_ | refine bel_drewN ?_ _ | refine bel_alloc ?_ _ | refine bel_set ?_ (by first | (dsimp only; omega) | (simp; done) | (simp; omega)) _ | refine bel_trans ?_ (by assumption))), .inr ⟨k, by omega, rfl, HE.out, HNOT.out⟩⟩
    · go_wp2_with fail
      go_ret
      exact ⟨_, rfl, (by repeat (first | exact Below.refl _ _ | assumption | refine bel_drew ?_ | refine bel_drewN ?_ _ | refine bel_alloc ?_ _ | refine bel_set ?_ (by first | (dsimp only; omega) | (simp; done) | (simp; omega)) _ | refine bel_trans ?_ (by assumption))), .inl ⟨rfl, fun j hj => HNOT.out j (by omega)⟩⟩
end Go.Proofs.Ythmjbfocpdiikaa
