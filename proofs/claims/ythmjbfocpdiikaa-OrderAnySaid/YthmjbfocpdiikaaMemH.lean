/-
  bank.May; the example of layer 29.
-/
import Derived.Test.YthmjbfocpdiikaaMemG
namespace Go.Proofs.Ythmjbfocpdiikaa
open Go.RowKit
set_option linter.unusedVariables false
set_option linter.unusedSimpArgs false
attribute [local go_sem] drewN_alloc drewN_setCell

theorem after_len (l : List PO.Mem) (at' x : Int) : (PO.after l at' x).1.length ≤ l.length := by
  unfold PO.after
  split
  · simp
  · split
    · simp
    · simp

theorem after_pos {l : List PO.Mem} {at' x : Int} (h : (PO.after l at' x).2 = true) : 1 ≤ x := by
  unfold PO.after at h
  split at h
  · simp at h
  · split at h
    · simp at h
    · rename_i hz
      by_cases hx : x < 1
      · exfalso
        apply hz
        unfold PO.grant
        rw [PA.doo_arg (.inr hx)]
        simp
      · omega
set_option maxRecDepth 100000 in
theorem bank_May {A : Option Addr} {n : Nat} {l : List PO.Mem} (c : Nat) (f w at' x : Int) {W : World} (h : MemAt W A n l) (hn : n ≤ 1000) (bf : -9223372036854775808 ≤ f ∧ f ≤ 9223372036854775807) (bw : -9223372036854775808 ≤ w ∧ w ≤ 9223372036854775807) (ba : -9223372036854775808 ≤ at' ∧ at' ≤ 9223372036854775807) (bx : -9223372036854775808 ≤ x ∧ x ≤ 9223372036854775807) :
    Calls Try.prog 20 #[.int .i64 f, .int .i64 w, .slice A n c, .int .i64 at', .int .i64 x] W fun e W' => e = .returned (.bool (PO.bmay f w l at' x)) ∧ Below W.heap.size W W' := by
  have K1 := bank_both f w W bf bw
  have K2 : Hid (∀ X, Below W.heap.size W X → Calls Try.prog 21 #[.slice A n c, .int .i64 at', .int .i64 x] X (GivesMem X (PO.after l at' x))) := Lib.hid (fun X hX => bank_After c at' x (h.keep hX) hn ba bx)
  have hlen := after_len l at' x
  rw [h.1] at hlen
  have hpos := fun hq => after_pos (l := l) (at' := at') (x := x) hq
  have e : PO.bmay f w l at' x = (if PO.bad f w = true ∨ f < x then false else (PO.after l at' x).2 && PO.bsafe (f - x) w (PO.after l at' x).1) := rfl
  generalize PO.bmay f w l at' x = R at *
  generalize PO.after l at' x = G at *
  obtain ⟨l', q⟩ := G
  dsimp only at e hlen hpos
  clear h
  cases hb : PO.bad f w
  · rw [hb] at K1 e
    rw [if_neg (by simp)] at K1
    obtain ⟨b0, b1, b2, b3⟩ := PO.bad_iff.1 hb
    replace K1 := Lib.hid K1
    clear hb
    by_cases hx : f < x
    · rw [if_pos (.inr hx)] at e
      subst e
      generalize f + w = fw at *
      have g1 : decide (f < x) = true := decide_eq_true hx
      clear K2 hx
      go_enter Try.func20, Try.ntmps20
      go_wp2_with fail
      refine K1.out.mono ?_
      rintro e w1 ⟨rfl, rfl⟩
      go_wp2_with fail
      exact bodyPost_ret (v := .bool false) (by simp [results, Try.results20, go_sem]) rfl ⟨rfl, (by repeat (first | exact Below.refl _ _ | assumption | refine bel_drew ?_ | refine bel_drewN ?_ _ | refine bel_alloc ?_ _ | refine bel_set ?_ (by first | (dsimp only; omega) | (simp; done) | (simp; omega)) _ | refine bel_trans ?_ (by assumption)))⟩
    · rw [if_neg (by simp; omega)] at e
      generalize f + w = fw at *
      have g1 : decide (f < x) = false := decide_eq_false hx
      have b4 : x ≤ f := by omega
      clear hx
      rcases q with _ | _
      · rw [Bool.false_and] at e
        subst e
        go_enter Try.func20, Try.ntmps20
        go_wp2_with fail
        refine K1.out.mono ?_
        rintro e w1 ⟨rfl, rfl⟩
        go_wp2_with fail
        refine (K2.out _ (by exact (by repeat (first | exact Below.refl _ _ | assumption | refine bel_drew ?_ | refine bel_drewN ?_ _ | refine bel_alloc ?_ _ | refine bel_set ?_ (by first | (dsimp only; omega) | (simp; done) | (simp; omega)) _ | refine bel_trans ?_ (by assumption))))).mono ?_
        rintro e w2 ⟨A2, n2, c2, rfl, i2, h2⟩
        clear i2
        go_wp2_with fail
        exact bodyPost_ret (v := .bool false) (by simp [results, Try.results20, go_sem]) rfl ⟨rfl, (by repeat (first | exact Below.refl _ _ | assumption | refine bel_drew ?_ | refine bel_drewN ?_ _ | refine bel_alloc ?_ _ | refine bel_set ?_ (by first | (dsimp only; omega) | (simp; done) | (simp; omega)) _ | refine bel_trans ?_ (by assumption)))⟩
      · have hx1 := hpos rfl
        rw [Bool.true_and] at e
        have wx : IntKind.i64.wrap (f - x) = f - x := IntWalk.i64_in _ (by omega)
        have K3 : Hid (∀ X A' n' c', MemAt X A' n' l' → Calls Try.prog 17 #[.int .i64 (f - x), .int .i64 w, .slice A' n' c'] X fun e W' => e = .returned (.bool R) ∧ Below X.heap.size X W') := Lib.hid (fun X A' n' c' hM => by
          rw [e]
          exact bank_Safe c' (f - x) w hM (by have := hM.1; omega) (by omega) bw)
        clear e hpos hlen
        go_enter Try.func20, Try.ntmps20
        go_wp2_with fail
        refine K1.out.mono ?_
        rintro e w1 ⟨rfl, rfl⟩
        go_wp2_with fail
        refine (K2.out _ (by exact (by repeat (first | exact Below.refl _ _ | assumption | refine bel_drew ?_ | refine bel_drewN ?_ _ | refine bel_alloc ?_ _ | refine bel_set ?_ (by first | (dsimp only; omega) | (simp; done) | (simp; omega)) _ | refine bel_trans ?_ (by assumption))))).mono ?_
        rintro e w2 ⟨A2, n2, c2, rfl, i2, h2⟩
        have K4 := Lib.hid (K3.out _ _ _ c2 i2)
        clear i2
        go_wp2_with fail
        refine K4.out.mono ?_
        rintro e w3 ⟨rfl, h3⟩
        go_wp2_with fail
        exact bodyPost_ret (v := .bool R) (by simp [results, Try.results20, go_sem]) rfl ⟨rfl, (by repeat (first | exact Below.refl _ _ | assumption | refine bel_drew ?_ | refine bel_drewN ?_ _ | refine bel_alloc ?_ _ | refine bel_set ?_ (by first | (dsimp only; omega) | (simp; done) | (simp; omega)) _ | refine bel_trans ?_ (by assumption)))⟩
  · rw [hb] at K1 e
    rw [if_pos (.inl rfl)] at e
    rw [if_pos rfl] at K1
    subst e
    replace K1 := Lib.hid K1
    clear K2 hb
    go_enter Try.func20, Try.ntmps20
    go_wp2_with fail
    refine K1.out.mono ?_
    rintro e w1 ⟨rfl, rfl⟩
    go_wp2_with fail
    exact bodyPost_ret (v := .bool false) (by simp [results, Try.results20, go_sem]) rfl ⟨rfl, (by repeat (first | exact Below.refl _ _ | assumption | refine bel_drew ?_ | refine bel_drewN ?_ _ | refine bel_alloc ?_ _ | refine bel_set ?_ (by first | (dsimp only; omega) | (simp; done) | (simp; omega)) _ | refine bel_trans ?_ (by assumption)))⟩

def tw : List PO.Mem := [(0, 3, 1, 2), (1, 3, 2, 1)]
theorem law29_two (w : World) : Calls Try.prog 57 #[] w fun e w' => e = .returned (.slice (some ⟨w.heap.size, 0, none⟩) 2 2) ∧ MemAt w' (some ⟨w.heap.size, 0, none⟩) 2 tw ∧ Below w.heap.size w w' := by
  have hrow : ∀ W : World, MemAt (W.alloc (.cells #[.int .i64 0, .int .i64 3, .int .i64 1, .int .i64 2, .int .i64 1, .int .i64 3, .int .i64 2, .int .i64 1] 34)) (some ⟨W.heap.size, 0, none⟩) 2 tw := fun W => by
    have hg : (W.alloc (.cells #[.int .i64 0, .int .i64 3, .int .i64 1, .int .i64 2, .int .i64 1, .int .i64 3, .int .i64 2, .int .i64 1] 34)).heap[W.heap.size]? = some (.cells (cellsM tw).toArray 34 (0, 0)) := World.alloc_heap_new _ _
    exact mem_of_row hg (by simp [tw]) (fun m hm => by
      simp only [tw, List.mem_cons, List.not_mem_nil, or_false] at hm
      rcases hm with rfl | rfl <;> refine ⟨⟨?_, ?_⟩, ⟨?_, ?_⟩, ⟨?_, ?_⟩, ?_, ?_⟩ <;> dsimp only <;> omega)
  replace hrow := Lib.hid hrow
  go_enter Try.func57, Try.ntmps57
  go_wp2_with fail
  exact bodyPost_ret (v := .slice (some ⟨w.heap.size, 0, none⟩) 2 2) (by simp [results, Try.results57, go_sem]) rfl ⟨rfl, hrow.out _, (by repeat (first | exact Below.refl _ _ | assumption | refine bel_drew ?_ | refine bel_drewN ?_ _ | refine bel_alloc ?_ _ | refine bel_set ?_ (by first | (dsimp only; omega) | (simp; done) | (simp; omega)) _ | refine bel_trans ?_ (by assumption)))⟩

theorem ex_after : PO.after tw 0 2 = ([(0, 3, 3, 0), (1, 3, 2, 1)], true) := by decide +kernel
theorem ex_may1 : PO.bmay 2 1 tw 0 2 = true := by decide +kernel
theorem ex_may2 : PO.bmay 2 1 tw 0 1 = true := by decide +kernel
theorem ex_may3 : PO.bmay 2 1 tw 1 1 = true := by decide +kernel
theorem ex_may4 : PO.bmay 2 1 tw 1 2 = false := by decide +kernel
theorem ex_safe : PO.bsafe 2 1 tw = true := by decide +kernel

set_option maxRecDepth 100000 in
set_option maxHeartbeats 4000000 in
theorem law29_works (w : World) : Calls Try.prog 16 #[] w fun e w' => e = .returned (.bool true) ∧ Below w.heap.size w w' := by
  have KM : Hid (∀ (X : World) (A : Option Addr) (c : Nat) (a x : Int) (r : Bool), 0 ≤ a ∧ a ≤ 5 → 0 ≤ x ∧ x ≤ 5 → PO.bmay 2 1 tw a x = r → MemAt X A 2 tw → Calls Try.prog 20 #[.int .i64 2, .int .i64 1, .slice A 2 c, .int .i64 a, .int .i64 x] X fun e W' => e = .returned (.bool r) ∧ Below X.heap.size X W') := Lib.hid (fun X A c a x r ha hx hr hM => by
    rw [← hr]
    exact bank_May c 2 1 a x hM (by omega) (by omega) (by omega) (by omega) (by omega))
  have KA : Hid (∀ (X : World) (A : Option Addr) (c : Nat), MemAt X A 2 tw → Calls Try.prog 21 #[.slice A 2 c, .int .i64 0, .int .i64 2] X (GivesMem X ([(0, 3, 3, 0), (1, 3, 2, 1)], true))) := Lib.hid (fun X A c hM => by
    rw [← ex_after]
    exact bank_After c 0 2 hM (by omega) (by omega) (by omega))
  have KS : Hid (∀ (X : World) (A : Option Addr) (c : Nat), MemAt X A 2 tw → Calls Try.prog 17 #[.int .i64 2, .int .i64 1, .slice A 2 c] X fun e W' => e = .returned (.bool true) ∧ Below X.heap.size X W') := Lib.hid (fun X A c hM => by
    rw [← ex_safe]
    exact bank_Safe c 2 1 hM (by omega) (by omega) (by omega))
  have K5 : Hid (∀ X, Calls Try.prog 19 #[.int .i64 5, .int .i64 5] X fun e W' => e = .returned (.bool true) ∧ X = W') := Lib.hid (fun X => bank_Admit 5 5 X)
  have K6 : Hid (∀ X, Calls Try.prog 19 #[.int .i64 5, .int .i64 6] X fun e W' => e = .returned (.bool false) ∧ X = W') := Lib.hid (fun X => bank_Admit 5 6 X)
  go_enter Try.func16, Try.ntmps16
  go_wp2_with fail
  refine (law29_two _).mono ?_
  rintro e w1 ⟨rfl, i1, h1⟩
  have HT : Hid (∀ X, Below w1.heap.size w1 X → MemAt X (some ⟨w.heap.size, 0, none⟩) 2 tw) := Lib.hid (fun X hX => i1.keep hX)
  clear i1
  go_wp2_with fail
  refine (KA.out _ _ _ (HT.out _ (Below.refl _ _))).mono ?_
  rintro e w2 ⟨A2, n2, c2, rfl, i2, h2⟩
  obtain rfl : 2 = n2 := i2.1
  obtain ⟨b2, o2, rfl, hb2, hc2⟩ := i2.2.2.2 (by omega)
  have y0 := (hc2 0 (by omega)).2.2.1
  dsimp only [List.getD_cons_zero] at y0
  clear hc2 i2
  go_wp2_with fail
  refine (KM.out _ _ _ 0 2 true (by omega) (by omega) ex_may1 (HT.out _ h2)).mono ?_
  rintro e w3 ⟨rfl, h3⟩
  have b3 := bel_trans h2 h3
  go_wp2_with fail
  refine (KM.out _ _ _ 0 1 true (by omega) (by omega) ex_may2 (HT.out _ b3)).mono ?_
  rintro e w4 ⟨rfl, h4⟩
  have b4 := bel_trans b3 h4
  go_wp2_with fail
  refine (KM.out _ _ _ 1 1 true (by omega) (by omega) ex_may3 (HT.out _ b4)).mono ?_
  rintro e w5 ⟨rfl, h5⟩
  have b5 := bel_trans b4 h5
  go_wp2_with fail
  refine (KM.out _ _ _ 1 2 false (by omega) (by omega) ex_may4 (HT.out _ b5)).mono ?_
  rintro e w6 ⟨rfl, h6⟩
  have b6 := bel_trans b5 h6
  have c6 := bel_trans (bel_trans (bel_trans h3 h4) h5) h6
  have z0 := (c6.cell hb2).trans y0
  go_wp2_with fail
  refine (K5.out _).mono ?_
  rintro e w7 ⟨rfl, rfl⟩
  go_wp2_with fail
  refine (K6.out _).mono ?_
  rintro e w8 ⟨rfl, rfl⟩
  go_wp2_with fail
  refine (KS.out _ _ _ (HT.out _ b6)).mono ?_
  rintro e w9 ⟨rfl, h9⟩
  go_wp2_with fail
  exact bodyPost_ret (v := .bool true) (by simp [results, Try.results16, go_sem]) rfl ⟨rfl, bel_trans (bel_trans h1 b6) h9⟩
end Go.Proofs.Ythmjbfocpdiikaa
