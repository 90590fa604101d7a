/-
  Sorting members: slices.SortStableFunc over at most 20 of the call's own.
-/
import Derived.Test.YthmjbfocpdiikaaPlainOrd
import Derived.Test.YthmjbfocpdiikaaMemG
import Derived.Test.YthmjbfocpdiikaaReg
import Derived.StillTailTactics
namespace Go.Proofs.Ythmjbfocpdiikaa
open Go.RowKit
set_option linter.unusedVariables false
set_option linter.unusedSimpArgs false
attribute [local go_sem] drewN_alloc drewN_setCell

theorem need_bd2 (m : PO.Mem) : 0 ≤ PO.need m ∧ PO.need m ≤ 1048576 := by
  unfold PO.need PA.need
  cases hr : PA.right m.2.1 m.2.2.1 m.2.2.2
  · simp
  · have := (PA.right_iff _ _ _).1 hr
    rw [if_pos rfl]
    omega
set_option maxRecDepth 100000 in
set_option maxHeartbeats 4000000 in
theorem order_Room1 (m k : PO.Mem) (w : World) (hm : MemBd m) (hk : MemBd k) :
    Calls Try.prog 71 #[.agg #[.int .i64 m.1, .int .i64 m.2.1, .int .i64 m.2.2.1, .int .i64 m.2.2.2], .agg #[.int .i64 k.1, .int .i64 k.2.1, .int .i64 k.2.2.1, .int .i64 k.2.2.2]] w fun e w' => e = .returned (.int .i64 (PO.need m - PO.need k)) ∧ Below w.heap.size w w' := by
  obtain ⟨p, hp⟩ : ∃ p, w.heap.size = p := ⟨_, rfl⟩
  obtain ⟨V, hV⟩ : ∃ V, (w.alloc (.cells #[.int .i64 m.1, .int .i64 m.2.1, .int .i64 m.2.2.1, .int .i64 m.2.2.2] 34)).alloc (.cells #[.int .i64 k.1, .int .i64 k.2.1, .int .i64 k.2.2.1, .int .i64 k.2.2.2] 34) = V := ⟨_, rfl⟩
  have hbV : Below w.heap.size w V := by rw [← hV]; exact (by repeat (first | exact Below.refl _ _ | assumption | refine bel_drew ?_ | refine bel_drewN ?_ _ | refine bel_alloc ?_ _ | refine bel_set ?_ (by first | (dsimp only; omega) | (simp; done) | (simp; omega)) _ | refine bel_trans ?_ (by assumption)))
  have sV : p + 1 < V.heap.size := by rw [← hV, ← hp]; simp
  have sV' : p < V.heap.size := by omega
  have hS : Hid (∀ W : World, Below V.heap.size V W → (fun W : World => W.cell? ⟨p, 1, none⟩ = some (.int .i64 m.2.1) ∧ W.cell? ⟨p, 2, none⟩ = some (.int .i64 m.2.2.1) ∧ W.cell? ⟨p, 3, none⟩ = some (.int .i64 m.2.2.2) ∧ W.cell? ⟨p + 1, 1, none⟩ = some (.int .i64 k.2.1) ∧ W.cell? ⟨p + 1, 2, none⟩ = some (.int .i64 k.2.2.1) ∧ W.cell? ⟨p + 1, 3, none⟩ = some (.int .i64 k.2.2.2)) W) := Lib.hid (fun W hW =>
    ⟨(hW.cell sV').trans (by rw [← hV, ← hp]; simp [go_sem]), (hW.cell sV').trans (by rw [← hV, ← hp]; simp [go_sem]), (hW.cell sV').trans (by rw [← hV, ← hp]; simp [go_sem]),
     (hW.cell sV).trans (by rw [← hV, ← hp]; simp [go_sem]), (hW.cell sV).trans (by rw [← hV, ← hp]; simp [go_sem]), (hW.cell sV).trans (by rw [← hV, ← hp]; simp [go_sem])⟩)
  have K1 := Lib.hid (fun W => account_Need m.2.1 m.2.2.1 m.2.2.2 W hm.2.1 hm.2.2.1 hm.2.2.2)
  have K2 := Lib.hid (fun W => account_Need k.2.1 k.2.2.1 k.2.2.2 W hk.2.1 hk.2.2.1 hk.2.2.2)
  have e1 : PA.need m.2.1 m.2.2.1 m.2.2.2 = PO.need m := rfl
  have e2 : PA.need k.2.1 k.2.2.1 k.2.2.2 = PO.need k := rfl
  rw [e1] at K1
  rw [e2] at K2
  have b1 := need_bd2 m
  have b2 := need_bd2 k
  generalize PO.need m = x at *
  generalize PO.need k = y at *
  have hw : IntKind.i64.wrap (x - y) = x - y := IntWalk.i64_in _ (by omega)
  have HV := Lib.hid hV
  have HP := Lib.hid hp
  have HB := Lib.hid hbV
  clear hV hp hbV sV sV' e1 e2 b1 b2
  go_enter Try.func71, Try.ntmps71
  go_wp2_with fail
  rw [HV.out, HP.out]
  refine wp_region_held_drew (S := (fun W : World => W.cell? ⟨p, 1, none⟩ = some (.int .i64 m.2.1) ∧ W.cell? ⟨p, 2, none⟩ = some (.int .i64 m.2.2.1) ∧ W.cell? ⟨p, 3, none⟩ = some (.int .i64 m.2.2.2) ∧ W.cell? ⟨p + 1, 1, none⟩ = some (.int .i64 k.2.1) ∧ W.cell? ⟨p + 1, 2, none⟩ = some (.int .i64 k.2.2.1) ∧ W.cell? ⟨p + 1, 3, none⟩ = some (.int .i64 k.2.2.2))) (by kernel_rfl) ?_ (fun hHeld => ?_)
  focus ((try dsimp only); exact hS.out _ (by repeat (first | exact Below.refl _ _ | assumption | refine bel_drew ?_ | refine bel_drewN ?_ _ | refine bel_trans ?_ (by assumption))))
  refine tk_yes 0 (v := ?_) rfl (by kernel_rfl) (by kernel_rfl) (by kernel_rfl) (fun _ _ _ h => h) (by kernel_rfl) (by assumption) ?_ ?_; rotate_left; (focus (intro w hSw; (try dsimp only at hSw); go_simp; (first | done | (with_reducible rfl)))); (try simp only [Act.put, List.setIfInBounds_toArray, List.set_cons_zero, List.set_cons_succ])
  refine tk_yes 1 (v := ?_) rfl (by kernel_rfl) (by kernel_rfl) (by kernel_rfl) (fun _ _ _ h => h) (by kernel_rfl) (by assumption) ?_ ?_; rotate_left; (focus (intro w hSw; (try dsimp only at hSw); go_simp; (first | done | (with_reducible rfl)))); (try simp only [Act.put, List.setIfInBounds_toArray, List.set_cons_zero, List.set_cons_succ])
  refine tk_yes 3 (v := ?_) rfl (by kernel_rfl) (by kernel_rfl) (by kernel_rfl) (fun _ _ _ h => h) (by kernel_rfl) (by assumption) ?_ ?_; rotate_left; (focus (intro w hSw; (try dsimp only at hSw); go_simp; (first | done | (with_reducible rfl)))); (try simp only [Act.put, List.setIfInBounds_toArray, List.set_cons_zero, List.set_cons_succ])
  refine tk_yes 4 (v := ?_) rfl (by kernel_rfl) (by kernel_rfl) (by kernel_rfl) (fun _ _ _ h => h) (by kernel_rfl) (by assumption) ?_ ?_; rotate_left; (focus (intro w hSw; (try dsimp only at hSw); go_simp; (first | done | (with_reducible rfl)))); (try simp only [Act.put, List.setIfInBounds_toArray, List.set_cons_zero, List.set_cons_succ])
  refine tk_call 2 rfl (by kernel_rfl) (by kernel_rfl) (fun KW hKW => ?_); go_simp; go_at_call 72; refine (K1.out _).mono ?_; rintro e u1 ⟨rfl, d1⟩; have t1 := bel_trans (bel_drew (Below.refl V.heap.size V)) d1; refine hKW.out _ _ ?_ (fun hHeld => ?_); (focus ((try dsimp only); exact hS.out _ (by repeat (first | exact Below.refl _ _ | assumption | refine bel_drew ?_ | refine bel_drewN ?_ _ | refine bel_trans ?_ (by assumption))))); clear hKW KW; (try simp only [Act.put, List.setIfInBounds_toArray, List.set_cons_zero, List.set_cons_succ])
  refine tk_call 5 rfl (by kernel_rfl) (by kernel_rfl) (fun KW hKW => ?_); go_simp; go_at_call 72; refine (K2.out _).mono ?_; rintro e u2 ⟨rfl, d2⟩; have t2 := bel_trans t1 d2; refine hKW.out _ _ ?_ (fun hHeld => ?_); (focus ((try dsimp only); exact hS.out _ (by repeat (first | exact Below.refl _ _ | assumption | refine bel_drew ?_ | refine bel_drewN ?_ _ | refine bel_trans ?_ (by assumption))))); clear hKW KW; (try simp only [Act.put, List.setIfInBounds_toArray, List.set_cons_zero, List.set_cons_succ])
  refine tk_yes 6 (v := ?_) rfl (by kernel_rfl) (by kernel_rfl) (by kernel_rfl) (fun _ _ _ h => h) (by kernel_rfl) (by assumption) ?_ ?_; rotate_left; (focus (intro w hSw; (try dsimp only at hSw); go_simp; (first | done | (with_reducible rfl)))); (try simp only [Act.put, List.setIfInBounds_toArray, List.set_cons_zero, List.set_cons_succ])
  refine tk_yes 7 (v := ?_) rfl (by kernel_rfl) (by kernel_rfl) (by kernel_rfl) (fun _ _ _ h => h) (by kernel_rfl) (by assumption) ?_ ?_; rotate_left; (focus (intro w hSw; (try dsimp only at hSw); go_simp; (first | done | (with_reducible rfl)))); (try simp only [Act.put, List.setIfInBounds_toArray, List.set_cons_zero, List.set_cons_succ])
  refine wpAnyH_done (by kernel_rfl) ?_ _
  go_wp2_with fail
  exact bodyPost_ret (v := .int .i64 (x - y)) (by simp [results, Try.results71, go_sem]) rfl ⟨rfl, bel_trans' HB.out t2 HB.out.size⟩


/-- Members of a block of one's own, that may be stored into. -/
def RowM (w : World) (g n : Nat) (p : List PO.Mem) : Prop :=
  p.length = n ∧ (∀ m ∈ p, MemBd m) ∧ (∀ o, w.frozen? ⟨g, o, none⟩ = false) ∧ g < w.heap.size ∧ ∀ i, i < n → MemCells w g (i * 4) (p.getD i PO.m0)
theorem RowM.keep {w w' : World} {g n B : Nat} {p : List PO.Mem} (h : RowM w g n p) (k : Below B w w') (hb : g < B) : RowM w' g n p := by
  obtain ⟨h1, h2, h3, h4, h5⟩ := h
  refine ⟨h1, h2, fun o => ?_, Nat.lt_of_lt_of_le h4 k.size, fun i hi => (h5 i hi).keep k hb⟩
  have := h3 o
  simp only [World.frozen?] at this ⊢
  rw [k.block g hb]
  exact this
theorem RowM.bd {w : World} {g n : Nat} {p : List PO.Mem} (h : RowM w g n p) {i : Nat} (hi : i < n) : MemBd (p.getD i PO.m0) := by
  rw [PO.getD_at (by have := h.1; omega)]
  exact h.2.1 _ (List.getElem_mem _)
/-- A member stored. -/
def st4 (w : World) (g o : Nat) (m : PO.Mem) : World := (((w.setCell ⟨g, o, none⟩ (.int .i64 m.1)).setCell ⟨g, o + 1, none⟩ (.int .i64 m.2.1)).setCell ⟨g, o + 2, none⟩ (.int .i64 m.2.2.1)).setCell ⟨g, o + 3, none⟩ (.int .i64 m.2.2.2)
theorem st4_below {w : World} {g o B : Nat} {m : PO.Mem} (h : B ≤ g) : Below B w (st4 w g o m) :=
  ((((Below.refl B w).setCell (by exact h) _).setCell (by exact h) _).setCell (by exact h) _).setCell (by exact h) _
theorem st4_far {w : World} {g o : Nat} {m : PO.Mem} (a : Addr) (h : a.block ≠ g ∨ ∀ r, r < 4 → a.off ≠ o + r) : (st4 w g o m).cell? a = w.cell? a := by
  have key : ∀ r, r < 4 → a ≠ ⟨g, o + r, none⟩ := by
    rintro r hr rfl
    rcases h with h | h
    · exact h rfl
    · exact h r hr rfl
  unfold st4
  rw [World.cell?_setCell_other _ _ _ _ (key 3 (by omega)).symm, World.cell?_setCell_other _ _ _ _ (key 2 (by omega)).symm, World.cell?_setCell_other _ _ _ _ (key 1 (by omega)).symm, World.cell?_setCell_other _ _ _ _ (show (⟨g, o, none⟩ : Addr) ≠ a from (key 0 (by omega)).symm)]
theorem st4_at {w : World} {g o : Nat} {m k : PO.Mem} (h : MemCells w g o k) : MemCells (st4 w g o m) g o m := by
  obtain ⟨x0, x1, x2, x3⟩ := h
  unfold st4
  refine ⟨?_, ?_, ?_, ?_⟩
  · rw [World.cell?_setCell_other _ _ _ _ (by simp), World.cell?_setCell_other _ _ _ _ (by simp), World.cell?_setCell_other _ _ _ _ (by simp)]; exact World.cell?_setCell_same _ _ _ x0
  · rw [World.cell?_setCell_other _ _ _ _ (by simp), World.cell?_setCell_other _ _ _ _ (by simp)]
    exact World.cell?_setCell_same _ _ _ ((World.cell?_setCell_other _ _ _ _ (by simp)).trans x1)
  · rw [World.cell?_setCell_other _ _ _ _ (by simp)]
    exact World.cell?_setCell_same _ _ _ ((World.cell?_setCell_other _ _ _ _ (by simp)).trans ((World.cell?_setCell_other _ _ _ _ (by simp)).trans x2))
  · exact World.cell?_setCell_same _ _ _ ((World.cell?_setCell_other _ _ _ _ (by simp)).trans ((World.cell?_setCell_other _ _ _ _ (by simp)).trans ((World.cell?_setCell_other _ _ _ _ (by simp)).trans x3)))
theorem RowM.set4 {w : World} {g n i : Nat} {p : List PO.Mem} {m : PO.Mem} (h : RowM w g n p) (hi : i < n) (hm : MemBd m) : RowM (st4 w g (i * 4) m) g n (p.set i m) := by
  obtain ⟨h1, h2, h3, h4, h5⟩ := h
  refine ⟨by simp [h1], fun x hx => ?_, fun o => ?_, by unfold st4; simpa using h4, fun j hj => ?_⟩
  · rcases List.mem_or_eq_of_mem_set hx with h' | rfl
    · exact h2 x h'
    · exact hm
  · unfold st4
    simpa [go_sem] using h3 o
  · by_cases e : j = i
    · subst e
      rw [set_getD_same _ _ (by omega)]
      exact st4_at (h5 j hj)
    · rw [set_getD_ne _ _ (fun h => e h.symm)]
      obtain ⟨x0, x1, x2, x3⟩ := h5 j hj
      exact ⟨(st4_far _ (.inr (fun r hr => by dsimp only; omega))).trans x0, (st4_far _ (.inr (fun r hr => by dsimp only; omega))).trans x1, (st4_far _ (.inr (fun r hr => by dsimp only; omega))).trans x2, (st4_far _ (.inr (fun r hr => by dsimp only; omega))).trans x3⟩
def swap (p : List PO.Mem) (k : Nat) : List PO.Mem := (p.set (k + 1) (p.getD k PO.m0)).set k (p.getD (k + 1) PO.m0)
theorem swap_len (p : List PO.Mem) (k : Nat) : (swap p k).length = p.length := by simp [swap]
theorem swap_at {p : List PO.Mem} {k : Nat} (hk : k + 1 < p.length) (i : Nat) : (swap p k).getD i PO.m0 = if i = k then p.getD (k + 1) PO.m0 else if i = k + 1 then p.getD k PO.m0 else p.getD i PO.m0 := by
  unfold swap
  rw [PO.getD_setM (by simp; omega)]
  split
  · rfl
  · rw [PO.getD_setM hk]
theorem swap_perm : ∀ (p : List PO.Mem) (k : Nat), k + 1 < p.length → (swap p k).Perm p
  | [], _, h => absurd h (by simp)
  | [_], _, h => absurd h (by simp)
  | a :: b :: t, 0, _ => by
    have e : swap (a :: b :: t) 0 = b :: a :: t := by simp [swap, List.getD]
    rw [e]
    exact List.Perm.swap a b t
  | a :: t, k + 1, h => by
    have e : swap (a :: t) (k + 1) = a :: swap t k := by simp [swap, List.getD]
    rw [e]
    exact (swap_perm t k (by simpa using h)).cons a
def SortedTo (p : List PO.Mem) (k : Nat) : Prop := ∀ x y, x < y → y < k → PO.need (p.getD x PO.m0) ≤ PO.need (p.getD y PO.m0)
/-- Sorted up to k, but for the one at j. -/
def SortedBut (p : List PO.Mem) (k j : Nat) : Prop := ∀ x y, x < y → y ≤ k → y ≠ j → PO.need (p.getD x PO.m0) ≤ PO.need (p.getD y PO.m0)
theorem but_start {p : List PO.Mem} {k : Nat} (h : SortedTo p k) : SortedBut p k k := fun x y h1 h2 h3 => h x y h1 (by omega)
theorem but_zero {p : List PO.Mem} {k : Nat} (h : SortedBut p k 0) : SortedTo p (k + 1) := fun x y h1 h2 => h x y h1 (by omega) (by omega)
theorem but_done {p : List PO.Mem} {k j : Nat} (h : SortedBut p k (j + 1)) (hn : PO.need (p.getD j PO.m0) ≤ PO.need (p.getD (j + 1) PO.m0)) : SortedTo p (k + 1) := fun x y h1 h2 => by
  by_cases e : y = j + 1
  · subst e
    rcases Nat.lt_or_ge x j with h3 | h3
    · exact Int.le_trans (h x j h3 (by omega) (by omega)) hn
    · obtain rfl : x = j := by omega
      exact hn
  · exact h x y h1 (by omega) e
theorem but_swap {p : List PO.Mem} {k j : Nat} (hj : j + 1 < p.length) (hjk : j + 1 ≤ k) (h : SortedBut p k (j + 1)) (hn : PO.need (p.getD (j + 1) PO.m0) < PO.need (p.getD j PO.m0)) : SortedBut (swap p j) k j := by
  intro x y h1 h2 h3
  rw [swap_at hj x, swap_at hj y, if_neg h3]
  by_cases e1 : x = j
  · rw [if_pos e1]
    by_cases e2 : y = j + 1
    · rw [if_pos e2]; omega
    · rw [if_neg e2]
      exact h (j + 1) y (by omega) h2 e2
  · rw [if_neg e1]
    by_cases e2 : x = j + 1
    · rw [if_pos e2, if_neg (by omega)]
      exact h j y (by omega) h2 (by omega)
    · rw [if_neg e2]
      by_cases e3 : y = j + 1
      · rw [if_pos e3]
        exact h x j (by omega) (by omega) (by omega)
      · rw [if_neg e3]
        exact h x y h1 h2 e3
end Go.Proofs.Ythmjbfocpdiikaa
