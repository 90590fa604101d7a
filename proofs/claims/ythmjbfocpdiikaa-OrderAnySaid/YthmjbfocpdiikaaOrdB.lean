/-
  Sorting members: the walk of the library's insertion sort, and of SortStableFunc.
-/
import Derived.Test.YthmjbfocpdiikaaOrdA
namespace Go.Proofs.Ythmjbfocpdiikaa
open Go.RowKit
set_option linter.unusedVariables false
set_option linter.unusedSimpArgs false
attribute [local go_sem] drewN_alloc drewN_setCell

def InsOut (w : World) (g n : Nat) (p0 : List PO.Mem) (i : Value) (wr : World) : Prop :=
  ∃ (k : Nat) (p : List PO.Mem), i = .int .i64 k ∧ 1 ≤ k ∧ (k ≤ n ∨ k = 1) ∧ p.Perm p0 ∧ SortedTo p k ∧ RowM wr g n p ∧ Below g w wr
def InsIn (w : World) (g n : Nat) (p0 : List PO.Mem) (k : Nat) (j : Value) (wr : World) : Prop :=
  ∃ (jj : Nat) (p : List PO.Mem), j = .int .i64 jj ∧ jj ≤ k ∧ p.Perm p0 ∧ SortedBut p k jj ∧ RowM wr g n p ∧ Below g w wr
def GivesSorted (g n : Nat) (p0 : List PO.Mem) (w : World) (e : Ending) (w' : World) : Prop :=
  e = .returned (.tuple #[]) ∧ ∃ p : List PO.Mem, p.Perm p0 ∧ SortedTo p n ∧ RowM w' g n p ∧ Below g w w'
theorem name_world {C : World → Prop} {w : World} (h : ∀ W, W = w → C W) : C w := h w rfl
theorem sortedTo_one (p : List PO.Mem) : SortedTo p 1 := fun x y h1 h2 => absurd h1 (by omega)
theorem rowM_stores {V : World} {g n j : Nat} {p : List PO.Mem} (h : RowM V g n p) (hj : j + 1 < n) : RowM (st4 (st4 V g ((j + 1) * 4) (p.getD j PO.m0)) g (j * 4) (p.getD (j + 1) PO.m0)) g n (swap p j) :=
  (h.set4 hj (h.bd (by omega))).set4 (by omega) (h.bd hj)

set_option maxRecDepth 100000 in
set_option maxHeartbeats 8000000 in
theorem sort_ins {g n : Nat} {p0 : List PO.Mem} (c : Nat) {w : World} (h : RowM w g n p0) (hn : n ≤ 1000) :
    Calls Try.prog 101 #[.slice (some ⟨g, 0, none⟩) n c, .int .i64 0, .int .i64 (n : Int), .func (.func 71) #[] #[]] w fun e w' => GivesSorted g n p0 w e w' := by
  have H := Lib.hid h
  clear h
  go_enter Try.func101, Try.ntmps101
  go_wp2_with fail
  go_loopw [8] (fun i wr => InsOut w g n p0 i wr) (fun i _ => n - (intOf i).toNat)
  case atStart => exact ⟨1, p0, rfl, Nat.le_refl _, .inr rfl, List.Perm.refl _, sortedTo_one _, H.out, Below.refl _ _⟩
  case round =>
    obtain ⟨k, p, rfl, hk1, hk2, hp, hs, hr, hbel⟩ := hrel
    have HP := Lib.hid hp
    have HS := Lib.hid hs
    have HR := Lib.hid hr
    have hgs := hr.2.2.2.1
    have hB := hbel
    clear hp hs hr
    by_cases hlt : (k : Int) < (n : Int)
    · go_wp2_with fail
      go_loopw [9] (fun j wr => InsIn w g n p0 k j wr) (fun j _ => (intOf j).toNat)
      case atStart => exact ⟨k, p, rfl, Nat.le_refl _, HP.out, but_start HS.out, HR.out, hbel⟩
      case round =>
        clear HP HS HR hbel hgs hB p
        obtain ⟨j, p, rfl, hj, hp, hs, hr, hbel⟩ := hrel
        have hn' : k < n := by omega
        rcases j with _ | j
        · have ez : ((0 : Nat) : Int) = 0 := rfl
          have g0 : decide ((0 : Int) < 0) = false := rfl
          have HS2 := Lib.hid (but_zero hs)
          have hgs := hr.2.2.2.1
          have HP := Lib.hid hp
          have HR := Lib.hid hr
          clear hs hp hr
          simp only [ez]
          go_wp2_with fail
          refine wp_region_held_drew (S := (fun W : World => W.heap.size = W.heap.size)) (by kernel_rfl) ?_ (fun hHeld => ?_)
          focus ((try dsimp only); all_goals trivial)
          refine tk_yes 0 (v := ?_) rfl (by kernel_rfl) (by kernel_rfl) (by kernel_rfl) (fun _ _ _ h => h) (by kernel_rfl) (by first | assumption | trivial) ?_ ?_; rotate_left; (focus (intro w hSw; (try dsimp only at hSw); go_simp; (first | done | (with_reducible rfl)))); (try simp only [Act.put, List.setIfInBounds_toArray, List.set_cons_zero, List.set_cons_succ])
          refine tk_yes 1 (v := ?_) rfl (by kernel_rfl) (by kernel_rfl) (by kernel_rfl) (fun _ _ _ h => h) (by kernel_rfl) (by first | assumption | trivial) ?_ ?_; rotate_left; (focus (intro w hSw; (try dsimp only at hSw); go_simp; (first | done | (with_reducible rfl)))); (try simp only [Act.put, List.setIfInBounds_toArray, List.set_cons_zero, List.set_cons_succ])
          refine tk_yes 2 (v := ?_) rfl (by kernel_rfl) (by kernel_rfl) (by kernel_rfl) (fun _ _ _ h => h) (by kernel_rfl) (by first | assumption | trivial) ?_ ?_; rotate_left; (focus (intro w hSw; (try dsimp only at hSw); go_simp; (first | done | (with_reducible rfl)))); (try simp only [Act.put, List.setIfInBounds_toArray, List.set_cons_zero, List.set_cons_succ])
          refine tk_yes 3 (v := ?_) rfl (by kernel_rfl) (by kernel_rfl) (by kernel_rfl) (fun _ _ _ h => h) (by kernel_rfl) (by first | assumption | trivial) ?_ ?_; rotate_left; (focus (intro w hSw; (try dsimp only at hSw); go_simp; (first | done | (with_reducible rfl)))); (try simp only [Act.put, List.setIfInBounds_toArray, List.set_cons_zero, List.set_cons_succ])
          refine tk_no 4 rfl (by kernel_rfl) (by kernel_rfl) (by kernel_rfl) (fun _ _ _ h => h) (by kernel_rfl) (by first | assumption | trivial) ?_; (try simp only [Act.put, List.setIfInBounds_toArray, List.set_cons_zero, List.set_cons_succ])
          refine tk_no 5 rfl (by kernel_rfl) (by kernel_rfl) (by kernel_rfl) (fun _ _ _ h => h) (by kernel_rfl) (by first | assumption | trivial) ?_; (try simp only [Act.put, List.setIfInBounds_toArray, List.set_cons_zero, List.set_cons_succ])
          refine tk_no 6 rfl (by kernel_rfl) (by kernel_rfl) (by kernel_rfl) (fun _ _ _ h => h) (by kernel_rfl) (by first | assumption | trivial) ?_; (try simp only [Act.put, List.setIfInBounds_toArray, List.set_cons_zero, List.set_cons_succ])
          refine tk_no 7 rfl (by kernel_rfl) (by kernel_rfl) (by kernel_rfl) (fun _ _ _ h => h) (by kernel_rfl) (by first | assumption | trivial) ?_; (try simp only [Act.put, List.setIfInBounds_toArray, List.set_cons_zero, List.set_cons_succ])
          refine tk_no 8 rfl (by kernel_rfl) (by kernel_rfl) (by kernel_rfl) (fun _ _ _ h => h) (by kernel_rfl) (by first | assumption | trivial) ?_; (try simp only [Act.put, List.setIfInBounds_toArray, List.set_cons_zero, List.set_cons_succ])
          refine tk_no 9 rfl (by kernel_rfl) (by kernel_rfl) (by kernel_rfl) (fun _ _ _ h => h) (by kernel_rfl) (by first | assumption | trivial) ?_; (try simp only [Act.put, List.setIfInBounds_toArray, List.set_cons_zero, List.set_cons_succ])
          refine tk_no 10 rfl (by kernel_rfl) (by kernel_rfl) (by kernel_rfl) (fun _ _ _ h => h) (by kernel_rfl) (by first | assumption | trivial) ?_; (try simp only [Act.put, List.setIfInBounds_toArray, List.set_cons_zero, List.set_cons_succ])
          refine tk_no 11 rfl (by kernel_rfl) (by kernel_rfl) (by kernel_rfl) (fun _ _ _ h => h) (by kernel_rfl) (by first | assumption | trivial) ?_; (try simp only [Act.put, List.setIfInBounds_toArray, List.set_cons_zero, List.set_cons_succ])
          refine tk_no 12 rfl (by kernel_rfl) (by kernel_rfl) (by kernel_rfl) (fun _ _ _ h => h) (by kernel_rfl) (by first | assumption | trivial) ?_; (try simp only [Act.put, List.setIfInBounds_toArray, List.set_cons_zero, List.set_cons_succ])
          refine tk_no 13 rfl (by kernel_rfl) (by kernel_rfl) (by kernel_rfl) (fun _ _ _ h => h) (by kernel_rfl) (by first | assumption | trivial) ?_; (try simp only [Act.put, List.setIfInBounds_toArray, List.set_cons_zero, List.set_cons_succ])
          refine tk_no 14 rfl (by kernel_rfl) (by kernel_rfl) (by kernel_rfl) (fun _ _ _ h => h) (by kernel_rfl) (by first | assumption | trivial) ?_; (try simp only [Act.put, List.setIfInBounds_toArray, List.set_cons_zero, List.set_cons_succ])
          refine tk_no 15 rfl (by kernel_rfl) (by kernel_rfl) (by kernel_rfl) (fun _ _ _ h => h) (by kernel_rfl) (by first | assumption | trivial) ?_; (try simp only [Act.put, List.setIfInBounds_toArray, List.set_cons_zero, List.set_cons_succ])
          refine tk_yes 16 (v := ?_) rfl (by kernel_rfl) (by kernel_rfl) (by kernel_rfl) (fun _ _ _ h => h) (by kernel_rfl) (by first | assumption | trivial) ?_ ?_; rotate_left; (focus (intro w hSw; (try dsimp only at hSw); go_simp; (first | done | (with_reducible rfl)))); (try simp only [Act.put, List.setIfInBounds_toArray, List.set_cons_zero, List.set_cons_succ])
          refine wpAnyH_done (by kernel_rfl) ?_ _

          go_wp2_with fail
          go_roundw
          case rel => exact ⟨k + 1, p, by go_num, by omega, .inl (by omega), HP.out, HS2.out, HR.out.keep (bel_drew (Below.refl wr.heap.size wr)) hgs, hbel.trans ((bel_drew (Below.refl wr.heap.size wr)).mono (by omega))⟩
          case measure => simp [intOf] <;> omega
        · have ej : ((j + 1 : Nat) : Int) = (j : Int) + 1 := by omega
          have hl := hr.1
          have C1 := hr.2.2.2.2 (j + 1) (by omega)
          have C2 := hr.2.2.2.2 j (by omega)
          have B1 := hr.bd (show j + 1 < n by omega)
          have B2 := hr.bd (show j < n by omega)
          have hgs := hr.2.2.2.1
          have HR := Lib.hid hr
          have HP := Lib.hid hp
          have HS := Lib.hid hs
          have HW := Lib.hid (fun hlt => but_swap (j := j) (by omega) hj hs hlt)
          have HD := Lib.hid (fun hge => but_done hs hge)
          obtain ⟨a, ha⟩ : ∃ a, p.getD (j + 1) PO.m0 = a := ⟨_, rfl⟩
          obtain ⟨b, hb⟩ : ∃ b, p.getD j PO.m0 = b := ⟨_, rfl⟩
          rw [ha] at C1 B1 HW HD
          rw [hb] at C2 B2 HW HD
          have HA := Lib.hid ha
          have HBB := Lib.hid hb
          have HMP : Hid ((swap p j).Perm p) := Lib.hid (swap_perm p j (by omega))
          have KC := Lib.hid (fun W => order_Room1 a b W B1 B2)
          clear hr hp hs ha hb B1 B2
          have b1 := need_bd2 a
          have b2 := need_bd2 b
          generalize PO.need a = x at *
          generalize PO.need b = y at *
          have j0 : (0 : Int) ≤ (j : Int) := by omega
          have j1 : (0 : Int) ≤ (j : Int) + 1 := by omega
          have j2 : (j : Int) + 1 < (n : Int) := by omega
          have j3 : (j : Int) < (n : Int) := by omega
          have j4 : ((j : Int) + 1).toNat = j + 1 := by omega
          have wj : IntKind.i64.wrap ((j : Int) + 1 - 1) = (j : Int) := by rw [IntKind.wrap_i64]; omega
          have wj2 : IntKind.i64.wrap (j : Int) = (j : Int) := by rw [IntKind.wrap_i64]; omega
          have g0 : decide ((0 : Int) < (j : Int) + 1) = true := decide_eq_true (by omega)
          have g0' : (0 : Int) < (j : Int) + 1 := by omega
          have hS : Hid (∀ W : World, Below wr.heap.size wr W → (fun W : World => W.cell? ⟨g, (j + 1) * 4, none⟩ = some (.int .i64 a.1) ∧ W.cell? ⟨g, (j + 1) * 4 + 1, none⟩ = some (.int .i64 a.2.1) ∧ W.cell? ⟨g, (j + 1) * 4 + 2, none⟩ = some (.int .i64 a.2.2.1) ∧ W.cell? ⟨g, (j + 1) * 4 + 3, none⟩ = some (.int .i64 a.2.2.2) ∧ W.cell? ⟨g, j * 4, none⟩ = some (.int .i64 b.1) ∧ W.cell? ⟨g, j * 4 + 1, none⟩ = some (.int .i64 b.2.1) ∧ W.cell? ⟨g, j * 4 + 2, none⟩ = some (.int .i64 b.2.2.1) ∧ W.cell? ⟨g, j * 4 + 3, none⟩ = some (.int .i64 b.2.2.2)) W) := Lib.hid (fun W hW => by
            obtain ⟨x0, x1, x2, x3⟩ := C1.keep hW hgs
            obtain ⟨y0, y1, y2, y3⟩ := C2.keep hW hgs
            exact ⟨x0, x1, x2, x3, y0, y1, y2, y3⟩)
          simp only [ej]
          by_cases hc : x - y < 0
          · have qc : decide (x - y < 0) = true := decide_eq_true hc
            have qc' : x < y := by omega
            have HW2 := Lib.hid (HW.out (by omega))
            clear HW HD
            go_wp2_with fail
            refine wp_region_held_drew (S := (fun W : World => W.cell? ⟨g, (j + 1) * 4, none⟩ = some (.int .i64 a.1) ∧ W.cell? ⟨g, (j + 1) * 4 + 1, none⟩ = some (.int .i64 a.2.1) ∧ W.cell? ⟨g, (j + 1) * 4 + 2, none⟩ = some (.int .i64 a.2.2.1) ∧ W.cell? ⟨g, (j + 1) * 4 + 3, none⟩ = some (.int .i64 a.2.2.2) ∧ W.cell? ⟨g, j * 4, none⟩ = some (.int .i64 b.1) ∧ W.cell? ⟨g, j * 4 + 1, none⟩ = some (.int .i64 b.2.1) ∧ W.cell? ⟨g, j * 4 + 2, none⟩ = some (.int .i64 b.2.2.1) ∧ W.cell? ⟨g, j * 4 + 3, none⟩ = some (.int .i64 b.2.2.2))) (by kernel_rfl) ?_ (fun hHeld => ?_)
            focus ((try dsimp only); exact hS.out _ (by repeat (first | exact Below.refl _ _ | assumption | refine bel_drew ?_ | refine bel_drewN ?_ _ | refine bel_trans ?_ (by assumption))))
            refine tk_yes 0 (v := ?_) rfl (by kernel_rfl) (by kernel_rfl) (by kernel_rfl) (fun _ _ _ h => h) (by kernel_rfl) (by assumption) ?_ ?_; rotate_left; (focus (intro w hSw; (try dsimp only at hSw); go_simp; (first | done | (with_reducible rfl)))); (try simp only [Act.put, List.setIfInBounds_toArray, List.set_cons_zero, List.set_cons_succ])
            refine tk_yes 1 (v := ?_) rfl (by kernel_rfl) (by kernel_rfl) (by kernel_rfl) (fun _ _ _ h => h) (by kernel_rfl) (by assumption) ?_ ?_; rotate_left; (focus (intro w hSw; (try dsimp only at hSw); go_simp; (first | done | (with_reducible rfl)))); (try simp only [Act.put, List.setIfInBounds_toArray, List.set_cons_zero, List.set_cons_succ])
            refine tk_yes 2 (v := ?_) rfl (by kernel_rfl) (by kernel_rfl) (by kernel_rfl) (fun _ _ _ h => h) (by kernel_rfl) (by assumption) ?_ ?_; rotate_left; (focus (intro w hSw; (try dsimp only at hSw); go_simp; (first | done | (with_reducible rfl)))); (try simp only [Act.put, List.setIfInBounds_toArray, List.set_cons_zero, List.set_cons_succ])
            refine tk_yes 3 (v := ?_) rfl (by kernel_rfl) (by kernel_rfl) (by kernel_rfl) (fun _ _ _ h => h) (by kernel_rfl) (by assumption) ?_ ?_; rotate_left; (focus (intro w hSw; (try dsimp only at hSw); go_simp; (first | done | (with_reducible rfl)))); (try simp only [Act.put, List.setIfInBounds_toArray, List.set_cons_zero, List.set_cons_succ])
            refine tk_yes 4 (v := ?_) rfl (by kernel_rfl) (by kernel_rfl) (by kernel_rfl) (fun _ _ _ h => h) (by kernel_rfl) (by assumption) ?_ ?_; rotate_left; (focus (intro w hSw; (try dsimp only at hSw); go_simp; (first | done | (with_reducible rfl)))); (try simp only [Act.put, List.setIfInBounds_toArray, List.set_cons_zero, List.set_cons_succ])
            refine tk_yes 5 (v := ?_) rfl (by kernel_rfl) (by kernel_rfl) (by kernel_rfl) (fun _ _ _ h => h) (by kernel_rfl) (by assumption) ?_ ?_; rotate_left; (focus (intro w hSw; (try dsimp only at hSw); go_simp; (first | done | (with_reducible rfl)))); (try simp only [Act.put, List.setIfInBounds_toArray, List.set_cons_zero, List.set_cons_succ])
            refine tk_yes 6 (v := ?_) rfl (by kernel_rfl) (by kernel_rfl) (by kernel_rfl) (fun _ _ _ h => h) (by kernel_rfl) (by assumption) ?_ ?_; rotate_left; (focus (intro w hSw; (try dsimp only at hSw); go_simp; (first | done | (with_reducible rfl)))); (try simp only [Act.put, List.setIfInBounds_toArray, List.set_cons_zero, List.set_cons_succ])
            refine tk_yes 7 (v := ?_) rfl (by kernel_rfl) (by kernel_rfl) (by kernel_rfl) (fun _ _ _ h => h) (by kernel_rfl) (by assumption) ?_ ?_; rotate_left; (focus (intro w hSw; (try dsimp only at hSw); go_simp; (first | done | (with_reducible rfl)))); (try simp only [Act.put, List.setIfInBounds_toArray, List.set_cons_zero, List.set_cons_succ])
            refine tk_yes 8 (v := ?_) rfl (by kernel_rfl) (by kernel_rfl) (by kernel_rfl) (fun _ _ _ h => h) (by kernel_rfl) (by assumption) ?_ ?_; rotate_left; (focus (intro w hSw; (try dsimp only at hSw); go_simp; (first | done | (with_reducible rfl)))); (try simp only [Act.put, List.setIfInBounds_toArray, List.set_cons_zero, List.set_cons_succ])
            refine tk_yes 9 (v := ?_) rfl (by kernel_rfl) (by kernel_rfl) (by kernel_rfl) (fun _ _ _ h => h) (by kernel_rfl) (by assumption) ?_ ?_; rotate_left; (focus (intro w hSw; (try dsimp only at hSw); go_simp; (first | done | (with_reducible rfl)))); (try simp only [Act.put, List.setIfInBounds_toArray, List.set_cons_zero, List.set_cons_succ])
            refine tk_yes 10 (v := ?_) rfl (by kernel_rfl) (by kernel_rfl) (by kernel_rfl) (fun _ _ _ h => h) (by kernel_rfl) (by assumption) ?_ ?_; rotate_left; (focus (intro w hSw; (try dsimp only at hSw); go_simp; (first | done | (with_reducible rfl)))); (try simp only [Act.put, List.setIfInBounds_toArray, List.set_cons_zero, List.set_cons_succ])
            refine tk_yes 11 (v := ?_) rfl (by kernel_rfl) (by kernel_rfl) (by kernel_rfl) (fun _ _ _ h => h) (by kernel_rfl) (by assumption) ?_ ?_; rotate_left; (focus (intro w hSw; (try dsimp only at hSw); go_simp; (first | done | (with_reducible rfl)))); (try simp only [Act.put, List.setIfInBounds_toArray, List.set_cons_zero, List.set_cons_succ])
            refine tk_yes 12 (v := ?_) rfl (by kernel_rfl) (by kernel_rfl) (by kernel_rfl) (fun _ _ _ h => h) (by kernel_rfl) (by assumption) ?_ ?_; rotate_left; (focus (intro w hSw; (try dsimp only at hSw); go_simp; (first | done | (with_reducible rfl)))); (try simp only [Act.put, List.setIfInBounds_toArray, List.set_cons_zero, List.set_cons_succ])
            refine tk_yes 13 (v := ?_) rfl (by kernel_rfl) (by kernel_rfl) (by kernel_rfl) (fun _ _ _ h => h) (by kernel_rfl) (by assumption) ?_ ?_; rotate_left; (focus (intro w hSw; (try dsimp only at hSw); go_simp; (first | done | (with_reducible rfl)))); (try simp only [Act.put, List.setIfInBounds_toArray, List.set_cons_zero, List.set_cons_succ])
            refine tk_call 14 rfl (by kernel_rfl) (by kernel_rfl) (fun KW hKW => ?_); go_simp; go_at_call 71; refine (KC.out _).mono ?_; rintro e u1 ⟨rfl, d1⟩; have t1 := bel_trans (bel_drew (Below.refl wr.heap.size wr)) d1; refine hKW.out _ _ ?_ (fun hHeld => ?_); (focus ((try dsimp only); exact hS.out _ (by repeat (first | exact Below.refl _ _ | assumption | refine bel_drew ?_ | refine bel_drewN ?_ _ | refine bel_trans ?_ (by assumption))))); clear hKW KW; (try simp only [Act.put, List.setIfInBounds_toArray, List.set_cons_zero, List.set_cons_succ])
            refine tk_yes 15 (v := ?_) rfl (by kernel_rfl) (by kernel_rfl) (by kernel_rfl) (fun _ _ _ h => h) (by kernel_rfl) (by assumption) ?_ ?_; rotate_left; (focus (intro w hSw; (try dsimp only at hSw); go_simp; (first | done | (with_reducible rfl)))); (try simp only [Act.put, List.setIfInBounds_toArray, List.set_cons_zero, List.set_cons_succ])
            refine tk_yes 16 (v := ?_) rfl (by kernel_rfl) (by kernel_rfl) (by kernel_rfl) (fun _ _ _ h => h) (by kernel_rfl) (by assumption) ?_ ?_; rotate_left; (focus (intro w hSw; (try dsimp only at hSw); go_simp; (first | done | (with_reducible rfl)))); (try simp only [Act.put, List.setIfInBounds_toArray, List.set_cons_zero, List.set_cons_succ])
            refine wpAnyH_done (by kernel_rfl) ?_ _

            go_wp2_with fail
            have hS1 := hS.out u1 t1
            obtain ⟨x0, x1, x2, x3, y0, y1, y2, y3⟩ := hS1
            have HR1 := HR.out.keep (bel_drew t1) hgs
            have r1 : Below g wr u1.drew := by exact (bel_drew t1).mono (by omega)
            have HX1 := rowM_stores (j := j) HR1 (by omega)
            rw [HA.out, HBB.out] at HX1
            have fz : ∀ o, u1.frozen? ⟨g, o, none⟩ = false := (HR.out.keep t1 hgs).2.2.1
            have HF1 := (HR1.set4 (i := j + 1) (m := b) (by omega) (by rw [← HBB.out]; exact HR1.bd (by omega)))
            have fz1 : ∀ o, (st4 u1.drew g ((j + 1) * 4) b).frozen? ⟨g, o, none⟩ = false := HF1.2.2.1
            have z0 : (st4 u1.drew g ((j + 1) * 4) b).cell? ⟨g, j * 4, none⟩ = some (.int .i64 b.1) := (st4_far _ (.inr (fun r hr => by dsimp only; omega))).trans y0
            have z1 : (st4 u1.drew g ((j + 1) * 4) b).cell? ⟨g, j * 4 + 1, none⟩ = some (.int .i64 b.2.1) := (st4_far _ (.inr (fun r hr => by dsimp only; omega))).trans y1
            have z2 : (st4 u1.drew g ((j + 1) * 4) b).cell? ⟨g, j * 4 + 2, none⟩ = some (.int .i64 b.2.2.1) := (st4_far _ (.inr (fun r hr => by dsimp only; omega))).trans y2
            have z3 : (st4 u1.drew g ((j + 1) * 4) b).cell? ⟨g, j * 4 + 3, none⟩ = some (.int .i64 b.2.2.2) := (st4_far _ (.inr (fun r hr => by dsimp only; omega))).trans y3
            obtain ⟨W1, hW⟩ : ∃ W1, st4 u1.drew g ((j + 1) * 4) b = W1 := ⟨_, rfl⟩
            rw [hW] at HX1 z0 z1 z2 z3 fz1
            have HX2 := Lib.hid HX1
            have hb1 : Below g u1.drew W1 := by rw [← hW]; exact st4_below (Nat.le_refl g)
            replace hW := Lib.hid hW
            clear HF1 HR1 HX1
            have fa0 := fz ((j + 1) * 4)
            have fa1 := fz ((j + 1) * 4 + 1)
            have fa2 := fz ((j + 1) * 4 + 2)
            have fa3 := fz ((j + 1) * 4 + 3)
            have fb0 := fz1 (j * 4)
            have fb1 := fz1 (j * 4 + 1)
            have fb2 := fz1 (j * 4 + 2)
            have fb3 := fz1 (j * 4 + 3)
            clear fz fz1
            refine wp_region_held_drew (S := (fun W : World => W.heap.size = W.heap.size)) (by kernel_rfl) ?_ (fun hHeld => ?_)
            focus ((try dsimp only); all_goals trivial)
            refine tk_yes 0 (v := ?_) rfl (by kernel_rfl) (by kernel_rfl) (by kernel_rfl) (fun _ _ _ h => h) (by kernel_rfl) (by first | assumption | trivial) ?_ ?_; rotate_left; (focus (intro w hSw; (try dsimp only at hSw); go_simp; (first | done | (with_reducible rfl)))); (try simp only [Act.put, List.setIfInBounds_toArray, List.set_cons_zero, List.set_cons_succ])
            refine tk_yes 1 (v := ?_) rfl (by kernel_rfl) (by kernel_rfl) (by kernel_rfl) (fun _ _ _ h => h) (by kernel_rfl) (by first | assumption | trivial) ?_ ?_; rotate_left; (focus (intro w hSw; (try dsimp only at hSw); go_simp; (first | done | (with_reducible rfl)))); (try simp only [Act.put, List.setIfInBounds_toArray, List.set_cons_zero, List.set_cons_succ])
            refine tk_yes 2 (v := ?_) rfl (by kernel_rfl) (by kernel_rfl) (by kernel_rfl) (fun _ _ _ h => h) (by kernel_rfl) (by first | assumption | trivial) ?_ ?_; rotate_left; (focus (intro w hSw; (try dsimp only at hSw); go_simp; (first | done | (with_reducible rfl)))); (try simp only [Act.put, List.setIfInBounds_toArray, List.set_cons_zero, List.set_cons_succ])
            refine tk_yes 3 (v := ?_) rfl (by kernel_rfl) (by kernel_rfl) (by kernel_rfl) (fun _ _ _ h => h) (by kernel_rfl) (by first | assumption | trivial) ?_ ?_; rotate_left; (focus (intro w hSw; (try dsimp only at hSw); go_simp; (first | done | (with_reducible rfl)))); (try simp only [Act.put, List.setIfInBounds_toArray, List.set_cons_zero, List.set_cons_succ])
            refine tk_yes 4 (v := ?_) rfl (by kernel_rfl) (by kernel_rfl) (by kernel_rfl) (fun _ _ _ h => h) (by kernel_rfl) (by first | assumption | trivial) ?_ ?_; rotate_left; (focus (intro w hSw; (try dsimp only at hSw); go_simp; (first | done | (with_reducible rfl)))); (try simp only [Act.put, List.setIfInBounds_toArray, List.set_cons_zero, List.set_cons_succ])
            refine tk_yes 5 (v := ?_) rfl (by kernel_rfl) (by kernel_rfl) (by kernel_rfl) (fun _ _ _ h => h) (by kernel_rfl) (by first | assumption | trivial) ?_ ?_; rotate_left; (focus (intro w hSw; (try dsimp only at hSw); go_simp; (first | done | (with_reducible rfl)))); (try simp only [Act.put, List.setIfInBounds_toArray, List.set_cons_zero, List.set_cons_succ])
            refine tk_yes 6 (v := ?_) rfl (by kernel_rfl) (by kernel_rfl) (by kernel_rfl) (fun _ _ _ h => h) (by kernel_rfl) (by first | assumption | trivial) ?_ ?_; rotate_left; (focus (intro w hSw; (try dsimp only at hSw); go_simp; (first | done | (with_reducible rfl)))); (try simp only [Act.put, List.setIfInBounds_toArray, List.set_cons_zero, List.set_cons_succ])
            refine tk_yes 7 (v := ?_) rfl (by kernel_rfl) (by kernel_rfl) (by kernel_rfl) (fun _ _ _ h => h) (by kernel_rfl) (by first | assumption | trivial) ?_ ?_; rotate_left; (focus (intro w hSw; (try dsimp only at hSw); go_simp; (first | done | (with_reducible rfl)))); (try simp only [Act.put, List.setIfInBounds_toArray, List.set_cons_zero, List.set_cons_succ])
            refine tk_yes 8 (v := ?_) rfl (by kernel_rfl) (by kernel_rfl) (by kernel_rfl) (fun _ _ _ h => h) (by kernel_rfl) (by first | assumption | trivial) ?_ ?_; rotate_left; (focus (intro w hSw; (try dsimp only at hSw); go_simp; (first | done | (with_reducible rfl)))); (try simp only [Act.put, List.setIfInBounds_toArray, List.set_cons_zero, List.set_cons_succ])
            refine tk_yes 10 (v := ?_) rfl (by kernel_rfl) (by kernel_rfl) (by kernel_rfl) (fun _ _ _ h => h) (by kernel_rfl) (by first | assumption | trivial) ?_ ?_; rotate_left; (focus (intro w hSw; (try dsimp only at hSw); go_simp; (first | done | (with_reducible rfl)))); (try simp only [Act.put, List.setIfInBounds_toArray, List.set_cons_zero, List.set_cons_succ])
            refine tk_yes 11 (v := ?_) rfl (by kernel_rfl) (by kernel_rfl) (by kernel_rfl) (fun _ _ _ h => h) (by kernel_rfl) (by first | assumption | trivial) ?_ ?_; rotate_left; (focus (intro w hSw; (try dsimp only at hSw); go_simp; (first | done | (with_reducible rfl)))); (try simp only [Act.put, List.setIfInBounds_toArray, List.set_cons_zero, List.set_cons_succ])
            refine tk_yes 12 (v := ?_) rfl (by kernel_rfl) (by kernel_rfl) (by kernel_rfl) (fun _ _ _ h => h) (by kernel_rfl) (by first | assumption | trivial) ?_ ?_; rotate_left; (focus (intro w hSw; (try dsimp only at hSw); go_simp; (first | done | (with_reducible rfl)))); (try simp only [Act.put, List.setIfInBounds_toArray, List.set_cons_zero, List.set_cons_succ])
            refine tk_two 9 13 rfl rfl (by kernel_rfl) (by kernel_rfl) (by kernel_rfl) (fun KW hKW => ?_) (fun KW hKW => ?_)
            · go_simp; refine hKW.out _ _ ?_ (fun hHeld => ?_); (focus ((try dsimp only); all_goals trivial)); clear hKW KW; (try simp only [Act.put, List.setIfInBounds_toArray, List.set_cons_zero, List.set_cons_succ])
              refine tk_call 13 rfl (by kernel_rfl) (by kernel_rfl) (fun KW hKW => ?_); go_simp; refine hKW.out _ _ ?_ (fun hHeld => ?_); (focus ((try dsimp only); all_goals trivial)); clear hKW KW; (try simp only [Act.put, List.setIfInBounds_toArray, List.set_cons_zero, List.set_cons_succ])
              refine tk_yes 14 (v := ?_) rfl (by kernel_rfl) (by kernel_rfl) (by kernel_rfl) (fun _ _ _ h => h) (by kernel_rfl) (by first | assumption | trivial) ?_ ?_; rotate_left; (focus (intro w hSw; (try dsimp only at hSw); go_simp; (first | done | (with_reducible rfl)))); (try simp only [Act.put, List.setIfInBounds_toArray, List.set_cons_zero, List.set_cons_succ])
              refine tk_call 15 rfl (by kernel_rfl) (by kernel_rfl) (fun KW hKW => ?_); go_simp; refine hKW.out _ _ ?_ (fun hHeld => ?_); (focus ((try dsimp only); all_goals trivial)); clear hKW KW; (try simp only [Act.put, List.setIfInBounds_toArray, List.set_cons_zero, List.set_cons_succ])
              refine name_world (C := fun W => wpAnyH _ _ _ _ _ _ _ _ W) ?_
              intro W2 hW2
              obtain rfl : W2 = W1 := hW2.trans hW.out
              clear hW2
              refine tk_yes 16 (v := ?_) rfl (by kernel_rfl) (by kernel_rfl) (by kernel_rfl) (fun _ _ _ h => h) (by kernel_rfl) (by first | assumption | trivial) ?_ ?_; rotate_left; (focus (intro w hSw; (try dsimp only at hSw); go_simp; (first | done | (with_reducible rfl)))); (try simp only [Act.put, List.setIfInBounds_toArray, List.set_cons_zero, List.set_cons_succ])
              refine tk_call 17 rfl (by kernel_rfl) (by kernel_rfl) (fun KW hKW => ?_); go_simp; refine hKW.out _ _ ?_ (fun hHeld => ?_); (focus ((try dsimp only); all_goals trivial)); clear hKW KW; (try simp only [Act.put, List.setIfInBounds_toArray, List.set_cons_zero, List.set_cons_succ])
              refine wpAnyH_done (by kernel_rfl) ?_ _
              go_wp2_with fail
              go_roundw
              case rel => exact ⟨j, swap p j, by go_num, by omega, HMP.out.trans HP.out, HW2.out, HX2.out, (hbel.trans (r1.trans hb1)).trans (st4_below (o := j * 4) (m := a) (Nat.le_refl g))⟩
              case measure => simp [intOf] <;> omega
            · go_simp; refine hKW.out _ _ ?_ (fun hHeld => ?_); (focus ((try dsimp only); all_goals trivial)); clear hKW KW; (try simp only [Act.put, List.setIfInBounds_toArray, List.set_cons_zero, List.set_cons_succ])
              refine tk_call 9 rfl (by kernel_rfl) (by kernel_rfl) (fun KW hKW => ?_); go_simp; refine hKW.out _ _ ?_ (fun hHeld => ?_); (focus ((try dsimp only); all_goals trivial)); clear hKW KW; (try simp only [Act.put, List.setIfInBounds_toArray, List.set_cons_zero, List.set_cons_succ])
              refine tk_yes 14 (v := ?_) rfl (by kernel_rfl) (by kernel_rfl) (by kernel_rfl) (fun _ _ _ h => h) (by kernel_rfl) (by first | assumption | trivial) ?_ ?_; rotate_left; (focus (intro w hSw; (try dsimp only at hSw); go_simp; (first | done | (with_reducible rfl)))); (try simp only [Act.put, List.setIfInBounds_toArray, List.set_cons_zero, List.set_cons_succ])
              refine tk_call 15 rfl (by kernel_rfl) (by kernel_rfl) (fun KW hKW => ?_); go_simp; refine hKW.out _ _ ?_ (fun hHeld => ?_); (focus ((try dsimp only); all_goals trivial)); clear hKW KW; (try simp only [Act.put, List.setIfInBounds_toArray, List.set_cons_zero, List.set_cons_succ])
              refine name_world (C := fun W => wpAnyH _ _ _ _ _ _ _ _ W) ?_
              intro W2 hW2
              obtain rfl : W2 = W1 := hW2.trans hW.out
              clear hW2
              refine tk_yes 16 (v := ?_) rfl (by kernel_rfl) (by kernel_rfl) (by kernel_rfl) (fun _ _ _ h => h) (by kernel_rfl) (by first | assumption | trivial) ?_ ?_; rotate_left; (focus (intro w hSw; (try dsimp only at hSw); go_simp; (first | done | (with_reducible rfl)))); (try simp only [Act.put, List.setIfInBounds_toArray, List.set_cons_zero, List.set_cons_succ])
              refine tk_call 17 rfl (by kernel_rfl) (by kernel_rfl) (fun KW hKW => ?_); go_simp; refine hKW.out _ _ ?_ (fun hHeld => ?_); (focus ((try dsimp only); all_goals trivial)); clear hKW KW; (try simp only [Act.put, List.setIfInBounds_toArray, List.set_cons_zero, List.set_cons_succ])
              refine wpAnyH_done (by kernel_rfl) ?_ _
              go_wp2_with fail
              go_roundw
              case rel => exact ⟨j, swap p j, by go_num, by omega, HMP.out.trans HP.out, HW2.out, HX2.out, (hbel.trans (r1.trans hb1)).trans (st4_below (o := j * 4) (m := a) (Nat.le_refl g))⟩
              case measure => simp [intOf] <;> omega

          · have qc : decide (x - y < 0) = false := decide_eq_false hc
            have HD2 := Lib.hid (HD.out (by omega))
            clear HW HD
            go_wp2_with fail
            refine wp_region_held_drew (S := (fun W : World => W.cell? ⟨g, (j + 1) * 4, none⟩ = some (.int .i64 a.1) ∧ W.cell? ⟨g, (j + 1) * 4 + 1, none⟩ = some (.int .i64 a.2.1) ∧ W.cell? ⟨g, (j + 1) * 4 + 2, none⟩ = some (.int .i64 a.2.2.1) ∧ W.cell? ⟨g, (j + 1) * 4 + 3, none⟩ = some (.int .i64 a.2.2.2) ∧ W.cell? ⟨g, j * 4, none⟩ = some (.int .i64 b.1) ∧ W.cell? ⟨g, j * 4 + 1, none⟩ = some (.int .i64 b.2.1) ∧ W.cell? ⟨g, j * 4 + 2, none⟩ = some (.int .i64 b.2.2.1) ∧ W.cell? ⟨g, j * 4 + 3, none⟩ = some (.int .i64 b.2.2.2))) (by kernel_rfl) ?_ (fun hHeld => ?_)
            focus ((try dsimp only); exact hS.out _ (by repeat (first | exact Below.refl _ _ | assumption | refine bel_drew ?_ | refine bel_drewN ?_ _ | refine bel_trans ?_ (by assumption))))
            refine tk_yes 0 (v := ?_) rfl (by kernel_rfl) (by kernel_rfl) (by kernel_rfl) (fun _ _ _ h => h) (by kernel_rfl) (by assumption) ?_ ?_; rotate_left; (focus (intro w hSw; (try dsimp only at hSw); go_simp; (first | done | (with_reducible rfl)))); (try simp only [Act.put, List.setIfInBounds_toArray, List.set_cons_zero, List.set_cons_succ])
            refine tk_yes 1 (v := ?_) rfl (by kernel_rfl) (by kernel_rfl) (by kernel_rfl) (fun _ _ _ h => h) (by kernel_rfl) (by assumption) ?_ ?_; rotate_left; (focus (intro w hSw; (try dsimp only at hSw); go_simp; (first | done | (with_reducible rfl)))); (try simp only [Act.put, List.setIfInBounds_toArray, List.set_cons_zero, List.set_cons_succ])
            refine tk_yes 2 (v := ?_) rfl (by kernel_rfl) (by kernel_rfl) (by kernel_rfl) (fun _ _ _ h => h) (by kernel_rfl) (by assumption) ?_ ?_; rotate_left; (focus (intro w hSw; (try dsimp only at hSw); go_simp; (first | done | (with_reducible rfl)))); (try simp only [Act.put, List.setIfInBounds_toArray, List.set_cons_zero, List.set_cons_succ])
            refine tk_yes 3 (v := ?_) rfl (by kernel_rfl) (by kernel_rfl) (by kernel_rfl) (fun _ _ _ h => h) (by kernel_rfl) (by assumption) ?_ ?_; rotate_left; (focus (intro w hSw; (try dsimp only at hSw); go_simp; (first | done | (with_reducible rfl)))); (try simp only [Act.put, List.setIfInBounds_toArray, List.set_cons_zero, List.set_cons_succ])
            refine tk_yes 4 (v := ?_) rfl (by kernel_rfl) (by kernel_rfl) (by kernel_rfl) (fun _ _ _ h => h) (by kernel_rfl) (by assumption) ?_ ?_; rotate_left; (focus (intro w hSw; (try dsimp only at hSw); go_simp; (first | done | (with_reducible rfl)))); (try simp only [Act.put, List.setIfInBounds_toArray, List.set_cons_zero, List.set_cons_succ])
            refine tk_yes 5 (v := ?_) rfl (by kernel_rfl) (by kernel_rfl) (by kernel_rfl) (fun _ _ _ h => h) (by kernel_rfl) (by assumption) ?_ ?_; rotate_left; (focus (intro w hSw; (try dsimp only at hSw); go_simp; (first | done | (with_reducible rfl)))); (try simp only [Act.put, List.setIfInBounds_toArray, List.set_cons_zero, List.set_cons_succ])
            refine tk_yes 6 (v := ?_) rfl (by kernel_rfl) (by kernel_rfl) (by kernel_rfl) (fun _ _ _ h => h) (by kernel_rfl) (by assumption) ?_ ?_; rotate_left; (focus (intro w hSw; (try dsimp only at hSw); go_simp; (first | done | (with_reducible rfl)))); (try simp only [Act.put, List.setIfInBounds_toArray, List.set_cons_zero, List.set_cons_succ])
            refine tk_yes 7 (v := ?_) rfl (by kernel_rfl) (by kernel_rfl) (by kernel_rfl) (fun _ _ _ h => h) (by kernel_rfl) (by assumption) ?_ ?_; rotate_left; (focus (intro w hSw; (try dsimp only at hSw); go_simp; (first | done | (with_reducible rfl)))); (try simp only [Act.put, List.setIfInBounds_toArray, List.set_cons_zero, List.set_cons_succ])
            refine tk_yes 8 (v := ?_) rfl (by kernel_rfl) (by kernel_rfl) (by kernel_rfl) (fun _ _ _ h => h) (by kernel_rfl) (by assumption) ?_ ?_; rotate_left; (focus (intro w hSw; (try dsimp only at hSw); go_simp; (first | done | (with_reducible rfl)))); (try simp only [Act.put, List.setIfInBounds_toArray, List.set_cons_zero, List.set_cons_succ])
            refine tk_yes 9 (v := ?_) rfl (by kernel_rfl) (by kernel_rfl) (by kernel_rfl) (fun _ _ _ h => h) (by kernel_rfl) (by assumption) ?_ ?_; rotate_left; (focus (intro w hSw; (try dsimp only at hSw); go_simp; (first | done | (with_reducible rfl)))); (try simp only [Act.put, List.setIfInBounds_toArray, List.set_cons_zero, List.set_cons_succ])
            refine tk_yes 10 (v := ?_) rfl (by kernel_rfl) (by kernel_rfl) (by kernel_rfl) (fun _ _ _ h => h) (by kernel_rfl) (by assumption) ?_ ?_; rotate_left; (focus (intro w hSw; (try dsimp only at hSw); go_simp; (first | done | (with_reducible rfl)))); (try simp only [Act.put, List.setIfInBounds_toArray, List.set_cons_zero, List.set_cons_succ])
            refine tk_yes 11 (v := ?_) rfl (by kernel_rfl) (by kernel_rfl) (by kernel_rfl) (fun _ _ _ h => h) (by kernel_rfl) (by assumption) ?_ ?_; rotate_left; (focus (intro w hSw; (try dsimp only at hSw); go_simp; (first | done | (with_reducible rfl)))); (try simp only [Act.put, List.setIfInBounds_toArray, List.set_cons_zero, List.set_cons_succ])
            refine tk_yes 12 (v := ?_) rfl (by kernel_rfl) (by kernel_rfl) (by kernel_rfl) (fun _ _ _ h => h) (by kernel_rfl) (by assumption) ?_ ?_; rotate_left; (focus (intro w hSw; (try dsimp only at hSw); go_simp; (first | done | (with_reducible rfl)))); (try simp only [Act.put, List.setIfInBounds_toArray, List.set_cons_zero, List.set_cons_succ])
            refine tk_yes 13 (v := ?_) rfl (by kernel_rfl) (by kernel_rfl) (by kernel_rfl) (fun _ _ _ h => h) (by kernel_rfl) (by assumption) ?_ ?_; rotate_left; (focus (intro w hSw; (try dsimp only at hSw); go_simp; (first | done | (with_reducible rfl)))); (try simp only [Act.put, List.setIfInBounds_toArray, List.set_cons_zero, List.set_cons_succ])
            refine tk_call 14 rfl (by kernel_rfl) (by kernel_rfl) (fun KW hKW => ?_); go_simp; go_at_call 71; refine (KC.out _).mono ?_; rintro e u1 ⟨rfl, d1⟩; have t1 := bel_trans (bel_drew (Below.refl wr.heap.size wr)) d1; refine hKW.out _ _ ?_ (fun hHeld => ?_); (focus ((try dsimp only); exact hS.out _ (by repeat (first | exact Below.refl _ _ | assumption | refine bel_drew ?_ | refine bel_drewN ?_ _ | refine bel_trans ?_ (by assumption))))); clear hKW KW; (try simp only [Act.put, List.setIfInBounds_toArray, List.set_cons_zero, List.set_cons_succ])
            refine tk_yes 15 (v := ?_) rfl (by kernel_rfl) (by kernel_rfl) (by kernel_rfl) (fun _ _ _ h => h) (by kernel_rfl) (by assumption) ?_ ?_; rotate_left; (focus (intro w hSw; (try dsimp only at hSw); go_simp; (first | done | (with_reducible rfl)))); (try simp only [Act.put, List.setIfInBounds_toArray, List.set_cons_zero, List.set_cons_succ])
            refine tk_yes 16 (v := ?_) rfl (by kernel_rfl) (by kernel_rfl) (by kernel_rfl) (fun _ _ _ h => h) (by kernel_rfl) (by assumption) ?_ ?_; rotate_left; (focus (intro w hSw; (try dsimp only at hSw); go_simp; (first | done | (with_reducible rfl)))); (try simp only [Act.put, List.setIfInBounds_toArray, List.set_cons_zero, List.set_cons_succ])
            refine wpAnyH_done (by kernel_rfl) ?_ _

            go_wp2_with fail
            have r1 : Below g wr u1 := by exact (t1.mono (by omega))
            go_roundw
            case rel => exact ⟨k + 1, p, by go_num, by omega, .inl (by omega), HP.out, HD2.out, HR.out.keep t1 hgs, hbel.trans r1⟩
            case measure => simp [intOf] <;> omega
    · go_wp2_with fail
      exact bodyPost_ret (v := .tuple #[]) (by simp [results, Try.results101, go_sem]) rfl ⟨rfl, p, HP.out, fun x y h1 h2 => HS.out x y h1 (by omega), HR.out, hB⟩
end Go.Proofs.Ythmjbfocpdiikaa
