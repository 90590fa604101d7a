/-
  The example of layer 28.
-/
import Derived.Test.YthmjbfocpdiikaaOrdD
import Derived.Test.YthmjbfocpdiikaaOrdE
namespace Go.Proofs.Ythmjbfocpdiikaa
open Go.RowKit
set_option linter.unusedVariables false
set_option linter.unusedSimpArgs false
attribute [local go_sem] drewN_alloc drewN_setCell

theorem MemAt.take {w : World} {A : Option Addr} {n k : Nat} {l : List PO.Mem} (h : MemAt w A n l) (hk : k ≤ n) : MemAt w A k (l.take k) := by
  refine ⟨by rw [List.length_take, h.1]; omega, by have := h.2.1; omega, fun t ht => h.2.2.1 t (List.mem_of_mem_take ht), fun h0 => ?_⟩
  obtain ⟨b, off, e, hb, hc⟩ := h.2.2.2 (by omega)
  refine ⟨b, off, e, hb, fun i hi => ?_⟩
  have e2 : (l.take k).getD i PO.m0 = l.getD i PO.m0 := by simp [List.getD, List.getElem?_take, hi]
  rw [e2]
  exact hc i (by omega)
theorem ints_three (w : World) (t : TypeId) (x y z : Int) : IntsAt (w.alloc (.cells #[.int .i64 x, .int .i64 y, .int .i64 z] t)) (some ⟨w.heap.size, 0, none⟩) 3 [x, y, z] := by
  refine ⟨rfl, by omega, fun _ => ⟨_, 0, rfl, by simp, fun i hi => ?_⟩⟩
  obtain rfl | rfl | rfl : i = 0 ∨ i = 1 ∨ i = 2 := by omega
  · simp [go_sem]
  · simp [go_sem]
  · simp [go_sem]
def exL : List PO.Mem := [(0, 5, 3, 0), (0, 4, 1, 0), (0, 3, 3, 0)]
theorem exL_order : PO.ints (PO.order 2 exL).1 = [0, 1, 2] := by decide +kernel
theorem exL_is : (PO.order 2 exL).2 = true := by decide +kernel
theorem exL_right : PO.isRight [2, 0, 1] 0 exL = true := by decide +kernel
theorem exL_safe : PO.safe 0 (exL.take 1) = false := by decide +kernel
theorem exL_room {R : Int} (h : PO.IsRoom 0 (exL.take 1) R) : R = 2 := by
  have h2 := PO.IsRoom.of_sorted (f := 0) (l := exL.take 1) (p := exL.take 1) (by decide +kernel) (List.Perm.refl _) (fun x y h1 h2 => by simp [exL] at h2; omega)
  rw [h.unique h2]
  decide +kernel

set_option maxRecDepth 100000 in
set_option maxHeartbeats 4000000 in
theorem law28_works (w : World) : Calls Try.prog 43 #[] w fun e w' => e = .returned (.bool true) ∧ Below w.heap.size w w' := by
  obtain ⟨p, hp⟩ : ∃ p, w.heap.size = p := ⟨_, rfl⟩
  obtain ⟨V, hV⟩ : ∃ V, w.alloc (.cells #[.int .i64 0, .int .i64 5, .int .i64 3, .int .i64 0, .int .i64 0, .int .i64 4, .int .i64 1, .int .i64 0, .int .i64 0, .int .i64 3, .int .i64 3, .int .i64 0] 34) = V := ⟨_, rfl⟩
  have hB : Below w.heap.size w V := by rw [← hV]; exact (by repeat (first | exact Below.refl _ _ | assumption | refine bel_drew ?_ | refine bel_drewN ?_ _ | refine bel_alloc ?_ _ | refine bel_set ?_ (by first | (dsimp only; omega) | (simp; done) | (simp; omega)) _ | refine bel_trans ?_ (by assumption)))
  have hM : MemAt V (some ⟨p, 0, none⟩) 3 exL := by
    rw [← hV, ← hp]
    refine mem_of_row (World.alloc_heap_new _ _ : (w.alloc (.cells #[.int .i64 0, .int .i64 5, .int .i64 3, .int .i64 0, .int .i64 0, .int .i64 4, .int .i64 1, .int .i64 0, .int .i64 0, .int .i64 3, .int .i64 3, .int .i64 0] 34)).heap[w.heap.size]? = some (.cells (cellsM exL).toArray 34 (0, 0))) (by simp [exL]) (fun m hm => by
      simp only [exL, List.mem_cons, List.not_mem_nil, or_false] at hm
      rcases hm with rfl | rfl | rfl <;> refine ⟨⟨?_, ?_⟩, ⟨?_, ?_⟩, ⟨?_, ?_⟩, ?_, ?_⟩ <;> dsimp only <;> omega)
  have K1 : Hid (Calls Try.prog 45 #[.int .i64 2, .slice (some ⟨p, 0, none⟩) 3 3] V fun e w' => ∃ A c, e = .returned (.tuple #[.slice A 3 c, .bool true]) ∧ IntsAt w' A 3 [0, 1, 2] ∧ Below V.heap.size V w') := Lib.hid (by
    refine (order_Order 3 2 hM (by omega)).mono ?_
    rintro e w1 ⟨v, rfl, ov, d1⟩
    rw [exL_order] at ov
    rw [exL_is]
    obtain ⟨A, c, rfl, i1, _⟩ := ov.ints
    exact ⟨A, c, rfl, i1, d1⟩)
  have K2 : Hid (∀ (W : World) (A : Option Addr) (c : Nat) (t : TypeId), IntsAt W A 3 [0, 1, 2] → Calls Try.prog 27 #[.slice A 3 c, .slice (some ⟨W.heap.size, 0, none⟩) 3 3] (W.alloc (.cells #[.int .i64 0, .int .i64 1, .int .i64 2] t)) fun e w' => e = .returned (.bool true) ∧ Below (W.alloc (.cells #[.int .i64 0, .int .i64 1, .int .i64 2] t)).heap.size (W.alloc (.cells #[.int .i64 0, .int .i64 1, .int .i64 2] t)) w') := Lib.hid (fun W A c t hA => by
    have K := base_SameInts c 3 (hA.keep (bel_alloc (Below.refl _ _) _)) (ints_three W t 0 1 2)
    rwa [decide_eq_true (rfl : ([0, 1, 2] : List Int) = [0, 1, 2])] at K)
  have K3 : Hid (∀ (W : World) (t : TypeId), Below V.heap.size V W → Calls Try.prog 46 #[.slice (some ⟨W.heap.size, 0, none⟩) 3 3, .int .i64 0, .slice (some ⟨p, 0, none⟩) 3 3] (W.alloc (.cells #[.int .i64 2, .int .i64 0, .int .i64 1] t)) fun e w' => e = .returned (.bool true) ∧ Below (W.alloc (.cells #[.int .i64 2, .int .i64 0, .int .i64 1] t)).heap.size (W.alloc (.cells #[.int .i64 2, .int .i64 0, .int .i64 1] t)) w') := Lib.hid (fun W t hW => by
    have K := order_Right 3 3 0 (ints_three W t 2 0 1) (hM.keep (bel_alloc hW _)) (by omega)
    rwa [exL_right] at K)
  have K4 : Hid (∀ W, Below V.heap.size V W → Calls Try.prog 42 #[.int .i64 0, .slice (some ⟨p, 0, none⟩) 1 3] W fun e w' => e = .returned (.bool false) ∧ Below W.heap.size W w') := Lib.hid (fun W hW => by
    have K := order_Safe 3 0 ((hM.take (show 1 ≤ 3 by omega)).keep hW) (by omega)
    rwa [exL_safe] at K)
  have K5 : Hid (∀ W, Below V.heap.size V W → Calls Try.prog 44 #[.int .i64 0, .slice (some ⟨p, 0, none⟩) 1 3] W fun e w' => e = .returned (.int .i64 2) ∧ Below W.heap.size W w') := Lib.hid (fun W hW => by
    refine (order_Room 3 0 ((hM.take (show 1 ≤ 3 by omega)).keep hW) (by omega)).mono ?_
    rintro e w1 ⟨R, rfl, hR, d1⟩
    rw [exL_room hR]
    exact ⟨rfl, d1⟩)
  have HV := Lib.hid hV
  have HP := Lib.hid hp
  have HB := Lib.hid hB
  clear hV hp hB hM
  go_enter Try.func43, Try.ntmps43
  go_wp2_with fail
  rw [HV.out, HP.out]
  refine K1.out.mono ?_
  rintro e w1 ⟨A1, c1, rfl, i1, d1⟩
  replace i1 := Lib.hid i1
  go_wp2_with fail
  refine (K2.out _ _ _ _ i1.out).mono ?_
  rintro e w2 ⟨rfl, d2⟩
  have t2 : Below V.heap.size V w2 := bel_trans (bel_alloc d1 _) d2
  go_wp2_with fail
  refine (K3.out _ _ t2).mono ?_
  rintro e w3 ⟨rfl, d3⟩
  have t3 : Below V.heap.size V w3 := bel_trans (bel_alloc t2 _) d3
  go_wp2_with fail
  refine (K4.out _ t3).mono ?_
  rintro e w4 ⟨rfl, d4⟩
  have t4 : Below V.heap.size V w4 := bel_trans t3 d4
  go_wp2_with fail
  refine (K5.out _ t4).mono ?_
  rintro e w5 ⟨rfl, d5⟩
  go_wp2_with fail
  exact bodyPost_ret (v := .bool true) (by simp [results, Try.results43, go_sem]) rfl ⟨rfl, bel_trans' HB.out (bel_trans t4 d5) HB.out.size⟩
end Go.Proofs.Ythmjbfocpdiikaa
