/-
  order.First and its reference; the reference's Short and Room.
-/
import Derived.Test.YthmjbfocpdiikaaOrdI
namespace Go.Proofs.Ythmjbfocpdiikaa
open Go.RowKit
set_option linter.unusedVariables false
set_option linter.unusedSimpArgs false
attribute [local go_sem] drewN_alloc drewN_setCell

set_option maxRecDepth 100000 in
set_option maxHeartbeats 4000000 in
theorem order_First1 (f : Int) (fb : Nat) (m : PO.Mem) {w : World} (hm : MemBd m) (cf : w.cell? ⟨fb, 0, none⟩ = some (.int .i64 f)) :
    Calls Try.prog 76 #[.agg #[.int .i64 m.1, .int .i64 m.2.1, .int .i64 m.2.2.1, .int .i64 m.2.2.2], .pointer (some ⟨fb, 0, none⟩)] w fun e w' => e = .returned (.bool (decide (PO.need m ≤ f))) ∧ Below w.heap.size w w' := by
  have sf := World.block_lt_of_cell? _ _ cf
  dsimp only at sf
  obtain ⟨p, hp⟩ : ∃ p, w.heap.size = p := ⟨_, rfl⟩
  obtain ⟨V, hV⟩ : ∃ V, w.alloc (.cells #[.int .i64 m.1, .int .i64 m.2.1, .int .i64 m.2.2.1, .int .i64 m.2.2.2] 34) = V := ⟨_, rfl⟩
  have hbV : Below w.heap.size w V := by rw [← hV]; exact (by repeat (first | exact Below.refl _ _ | assumption | refine bel_drew ?_ | refine bel_drewN ?_ _ | refine bel_alloc ?_ _ | refine bel_set ?_ (by first | (dsimp only; omega) | (simp; done) | (simp; omega)) _ | refine bel_trans ?_ (by assumption)))
  have sV : p < V.heap.size := by rw [← hV, ← hp]; simp
  have sfV : fb < V.heap.size := by have := hbV.size; omega
  have cV := (hbV.cell (p := ⟨fb, 0, none⟩) sf).trans cf
  have hS : Hid (∀ W : World, Below V.heap.size V W → (fun W : World => W.cell? ⟨p, 1, none⟩ = some (.int .i64 m.2.1) ∧ W.cell? ⟨p, 2, none⟩ = some (.int .i64 m.2.2.1) ∧ W.cell? ⟨p, 3, none⟩ = some (.int .i64 m.2.2.2) ∧ W.cell? ⟨fb, 0, none⟩ = some (.int .i64 f)) W) := Lib.hid (fun W hW =>
    ⟨(hW.cell sV).trans (by rw [← hV, ← hp]; simp [go_sem]), (hW.cell sV).trans (by rw [← hV, ← hp]; simp [go_sem]), (hW.cell sV).trans (by rw [← hV, ← hp]; simp [go_sem]), (hW.cell (p := ⟨fb, 0, none⟩) sfV).trans cV⟩)
  have K1 := Lib.hid (fun W => account_Need m.2.1 m.2.2.1 m.2.2.2 W hm.2.1 hm.2.2.1 hm.2.2.2)
  have e1 : PA.need m.2.1 m.2.2.1 m.2.2.2 = PO.need m := rfl
  rw [e1] at K1
  generalize PO.need m = x at *
  have HV := Lib.hid hV
  have HP := Lib.hid hp
  have HB := Lib.hid hbV
  clear hV hp hbV sV e1 cV cf sf sfV
  go_enter Try.func76, Try.ntmps76
  go_wp2_with fail
  rw [HV.out, HP.out]
  refine wp_region_held_drew (S := (fun W : World => W.cell? ⟨p, 1, none⟩ = some (.int .i64 m.2.1) ∧ W.cell? ⟨p, 2, none⟩ = some (.int .i64 m.2.2.1) ∧ W.cell? ⟨p, 3, none⟩ = some (.int .i64 m.2.2.2) ∧ W.cell? ⟨fb, 0, none⟩ = some (.int .i64 f))) (by kernel_rfl) ?_ (fun hHeld => ?_)
  focus ((try dsimp only); exact hS.out _ (by repeat (first | exact Below.refl _ _ | assumption | refine bel_drew ?_ | refine bel_drewN ?_ _ | refine bel_trans ?_ (by assumption))))
  refine tk_yes 0 (v := ?_) rfl (by kernel_rfl) (by kernel_rfl) (by kernel_rfl) (fun _ _ _ h => h) (by kernel_rfl) (by assumption) ?_ ?_; rotate_left; (focus (intro w hSw; (try dsimp only at hSw); go_simp; (first | done | (with_reducible rfl)))); (try simp only [Act.put, List.setIfInBounds_toArray, List.set_cons_zero, List.set_cons_succ])
  refine tk_yes 1 (v := ?_) rfl (by kernel_rfl) (by kernel_rfl) (by kernel_rfl) (fun _ _ _ h => h) (by kernel_rfl) (by assumption) ?_ ?_; rotate_left; (focus (intro w hSw; (try dsimp only at hSw); go_simp; (first | done | (with_reducible rfl)))); (try simp only [Act.put, List.setIfInBounds_toArray, List.set_cons_zero, List.set_cons_succ])
  refine tk_yes 3 (v := ?_) rfl (by kernel_rfl) (by kernel_rfl) (by kernel_rfl) (fun _ _ _ h => h) (by kernel_rfl) (by assumption) ?_ ?_; rotate_left; (focus (intro w hSw; (try dsimp only at hSw); go_simp; (first | done | (with_reducible rfl)))); (try simp only [Act.put, List.setIfInBounds_toArray, List.set_cons_zero, List.set_cons_succ])
  refine tk_call 2 rfl (by kernel_rfl) (by kernel_rfl) (fun KW hKW => ?_); go_simp; go_at_call 72; refine (K1.out _).mono ?_; rintro e u1 ⟨rfl, d1⟩; have t1 := bel_trans (bel_drew (Below.refl V.heap.size V)) d1; refine hKW.out _ _ ?_ (fun hHeld => ?_); (focus ((try dsimp only); exact hS.out _ (by repeat (first | exact Below.refl _ _ | assumption | refine bel_drew ?_ | refine bel_drewN ?_ _ | refine bel_trans ?_ (by assumption))))); clear hKW KW; (try simp only [Act.put, List.setIfInBounds_toArray, List.set_cons_zero, List.set_cons_succ])
  refine tk_yes 4 (v := ?_) rfl (by kernel_rfl) (by kernel_rfl) (by kernel_rfl) (fun _ _ _ h => h) (by kernel_rfl) (by assumption) ?_ ?_; rotate_left; (focus (intro w hSw; (try dsimp only at hSw); go_simp; (first | done | (with_reducible rfl)))); (try simp only [Act.put, List.setIfInBounds_toArray, List.set_cons_zero, List.set_cons_succ])
  refine tk_yes 5 (v := ?_) rfl (by kernel_rfl) (by kernel_rfl) (by kernel_rfl) (fun _ _ _ h => h) (by kernel_rfl) (by assumption) ?_ ?_; rotate_left; (focus (intro w hSw; (try dsimp only at hSw); go_simp; (first | done | (with_reducible rfl)))); (try simp only [Act.put, List.setIfInBounds_toArray, List.set_cons_zero, List.set_cons_succ])
  refine wpAnyH_done (by kernel_rfl) ?_ _
  go_wp2_with fail
  exact bodyPost_ret (v := .bool (decide (x ≤ f))) (by simp [results, Try.results76, go_sem]) rfl ⟨rfl, bel_trans' HB.out t1 HB.out.size⟩

set_option maxRecDepth 100000 in
set_option maxHeartbeats 4000000 in
theorem order_First {A : Option Addr} {n : Nat} {l : List PO.Mem} (c : Nat) (f : Int) {w : World} (h : MemAt w A n l) :
    Calls Try.prog 55 #[.int .i64 f, .slice A n c] w fun e w' => e = .returned (.int .i64 (PO.first f l)) ∧ Below w.heap.size w w' := by
  obtain ⟨p, hp⟩ : ∃ p, w.heap.size = p := ⟨_, rfl⟩
  obtain ⟨V, hV⟩ : ∃ V, w.alloc (.cells #[.int .i64 f] 3) = V := ⟨_, rfl⟩
  have hbV : Below w.heap.size w V := by rw [← hV]; exact (by repeat (first | exact Below.refl _ _ | assumption | refine bel_drew ?_ | refine bel_drewN ?_ _ | refine bel_alloc ?_ _ | refine bel_set ?_ (by first | (dsimp only; omega) | (simp; done) | (simp; omega)) _ | refine bel_trans ?_ (by assumption)))
  have sV : p < V.heap.size := by rw [← hV, ← hp]; simp
  have cV : V.cell? ⟨p, 0, none⟩ = some (.int .i64 f) := by rw [← hV, ← hp]; simp [go_sem]
  have hM := h.keep hbV
  have K1 : Hid (∀ W, Below V.heap.size V W → Calls Try.prog 68 #[.int .i64 f, .slice A n c] W fun e w' => e = .returned (.bool (PO.may f l)) ∧ Below W.heap.size W w') := Lib.hid (fun W hW => order_may c f (hM.keep hW))
  have K2 : Hid (∀ W, Below V.heap.size V W → Calls Try.prog 75 #[.slice A n c, .func (.func 76) #[] #[.pointer (some ⟨p, 0, none⟩)]] W fun e w' => e = .returned (.int .i64 (PO.idx (fun m => decide (PO.need m ≤ f)) l)) ∧ Below W.heap.size W w') := Lib.hid (fun W hW =>
    mem_IndexFunc c 76 #[.pointer (some ⟨p, 0, none⟩)] (fun m => decide (PO.need m ≤ f)) (hM.keep hW) (fun args w => by simp [go_sem]) (fun m X hX bm => order_First1 f p m bm ((hX.cell (p := ⟨p, 0, none⟩) (by dsimp only; have := hW.size; omega)).trans ((hW.cell (p := ⟨p, 0, none⟩) sV).trans cV))))
  obtain ⟨Y, hY⟩ : ∃ Y, PO.first f l = Y := ⟨_, rfl⟩
  rw [hY]
  unfold PO.first at hY
  have HV := Lib.hid hV
  have HP := Lib.hid hp
  have HB := Lib.hid hbV
  cases hm : PO.may f l
  · have HE : Hid ((-1 : Int) = Y) := Lib.hid (by rw [← hY, hm, if_neg (by simp)])
    rw [hm] at K1
    have HCV := Lib.hid cV
    clear h hM hV hp hbV sV hY hm K2 cV
    go_enter Try.func55, Try.ntmps55
    go_wp2_with fail
    rw [HV.out]
    refine (K1.out _ (Below.refl _ _)).mono ?_
    rintro e w1 ⟨rfl, d1⟩
    go_wp2_with fail
    go_ret
    exact ⟨ret_int HE.out, bel_trans' HB.out d1 HB.out.size⟩
  · rw [hm, if_pos rfl] at hY
    rw [hm] at K1
    rw [hY] at K2
    clear h hM hV hp hbV sV hY hm cV
    go_enter Try.func55, Try.ntmps55
    go_wp2_with fail
    rw [HV.out, HP.out]
    refine (K1.out _ (Below.refl _ _)).mono ?_
    rintro e w1 ⟨rfl, d1⟩
    go_wp2_with fail
    refine (K2.out _ d1).mono ?_
    rintro e w2 ⟨rfl, d2⟩
    go_wp2_with fail
    go_ret
    exact ⟨rfl, bel_trans' HB.out (bel_trans d1 d2) HB.out.size⟩

def RFirRel (w : World) (l : List PO.Mem) (f : Int) (n : Nat) (i : Value) (wr : World) : Prop :=
  ∃ k : Nat, k ≤ n ∧ i = .int .i64 k ∧ (∀ j, j < k → ¬ PO.need (l.getD j PO.m0) ≤ f) ∧ Below w.heap.size w wr
set_option maxRecDepth 100000 in
set_option maxHeartbeats 4000000 in
theorem ref28_First {A : Option Addr} {n : Nat} {l : List PO.Mem} (c : Nat) (f : Int) {w : World} (h : MemAt w A n l) :
    Calls Try.prog 56 #[.int .i64 f, .slice A n c] w fun e w' => e = .returned (.int .i64 (PO.first f l)) ∧ Below w.heap.size w w' := by
  have hl := h.1
  have hnb := h.2.1
  have K1 : Hid (∀ W, Below w.heap.size w W → Calls Try.prog 51 #[.int .i64 f, .slice A n c] W fun e w' => e = .returned (.bool (PO.may f l)) ∧ Below W.heap.size W w') := Lib.hid (fun W hW => ref28_May c f (h.keep hW))
  obtain ⟨Y, hY⟩ : ∃ Y, PO.first f l = Y := ⟨_, rfl⟩
  rw [hY]
  unfold PO.first at hY
  have HM := Lib.hid h.2.2.2
  have HBD := Lib.hid (fun k (hk : k < n) => h.bd hk)
  cases hm : PO.may f l
  · have HE : Hid ((-1 : Int) = Y) := Lib.hid (by rw [← hY, hm, if_neg (by simp)])
    rw [hm] at K1
    clear h hY hm
    go_enter Try.func56, Try.ntmps56
    go_wp2_with fail
    go_loopw [5] (fun i wr => i = .int .i64 0 ∧ wr = w) (fun _ _ => 0)
    case atStart => exact ⟨rfl, rfl⟩
    case round =>
      obtain ⟨rfl, rfl⟩ := hrel
      go_wp2_with fail
      refine (K1.out _ (Below.refl _ _)).mono ?_
      rintro e w1 ⟨rfl, d1⟩
      go_wp2_with fail
      go_ret
      exact ⟨ret_int HE.out, d1⟩
  · rw [hm, if_pos rfl] at hY
    rw [hm] at K1
    have HY := Lib.hid hY
    clear h hY hm
    go_enter Try.func56, Try.ntmps56
    go_wp2_with fail
    go_loopw [5] (fun i wr => RFirRel w l f n i wr) (fun i _ => n - (intOf i).toNat)
    case atStart => exact ⟨0, Nat.zero_le _, rfl, fun j hj => absurd hj (by omega), Below.refl _ _⟩
    case round =>
      obtain ⟨k, hk, rfl, hno, hbel⟩ := hrel
      have HN := Lib.hid hno
      clear hno
      have j1 : (0 : Int) ≤ (k : Int) := by omega
      by_cases hlt : (k : Int) < (n : Int)
      · have j2 : (k : Int) < (n : Int) := hlt
        obtain ⟨b, off, rfl, hb, hcs⟩ := HM.out (by omega)
        have HXM : Hid (∀ W, Below w.heap.size w W → MemCells W b (off + k * 4) (l.getD k PO.m0)) := Lib.hid (fun W hW => (hcs k (by omega)).keep hW hb)
        have bd := HBD.out k (by omega)
        have hidx : Hid (PO.need (l.getD k PO.m0) ≤ f → (k : Int) = Y) := Lib.hid (fun hq => by
          rw [← HY.out]
          exact (PO.idx_at (by omega) (fun j hj => decide_eq_false (HN.out j hj)) (decide_eq_true hq)).symm)
        have hnx : Hid (¬ PO.need (l.getD k PO.m0) ≤ f → ∀ j, j < k + 1 → ¬ PO.need (l.getD j PO.m0) ≤ f) := Lib.hid (fun hq j hj => by
          rcases Nat.lt_or_ge j k with h1 | h1
          · exact HN.out j h1
          · obtain rfl : j = k := by omega
            exact hq)
        obtain ⟨m, hmm⟩ : ∃ m, l.getD k PO.m0 = m := ⟨_, rfl⟩
        rw [hmm] at HXM bd hidx hnx
        have KN := Lib.hid (fun W => ref26_Need m.2.1 m.2.2.1 m.2.2.2 W bd.2.1 bd.2.2.1 bd.2.2.2)
        have en : PA.need m.2.1 m.2.2.1 m.2.2.2 = PO.need m := rfl
        rw [en] at KN
        obtain ⟨nd, hne⟩ : ∃ nd, PO.need m = nd := ⟨_, rfl⟩
        rw [hne] at KN hidx hnx
        clear hmm bd en hne hcs
        by_cases hq : nd ≤ f
        · have qf : decide (nd ≤ f) = true := decide_eq_true hq
          have HE := Lib.hid (hidx.out hq)
          go_wp2_with fail
          refine (K1.out _ hbel).mono ?_
          rintro e w1 ⟨rfl, d1⟩
          have t1 : Below w.heap.size w w1 := bel_trans hbel d1
          obtain ⟨z0, z1, z2, z3⟩ := HXM.out w1 t1
          go_wp2_with fail
          refine (KN.out _).mono ?_
          rintro e w2 ⟨rfl, d2⟩
          go_wp2_with fail
          go_ret
          exact ⟨ret_int HE.out, bel_trans t1 d2⟩
        · have qf : decide (nd ≤ f) = false := decide_eq_false hq
          have HE := Lib.hid (hnx.out hq)
          go_wp2_with fail
          refine (K1.out _ hbel).mono ?_
          rintro e w1 ⟨rfl, d1⟩
          have t1 : Below w.heap.size w w1 := bel_trans hbel d1
          obtain ⟨z0, z1, z2, z3⟩ := HXM.out w1 t1
          go_wp2_with fail
          refine (KN.out _).mono ?_
          rintro e w2 ⟨rfl, d2⟩
          go_wp2_with fail
          go_roundw
          case rel => exact ⟨k + 1, by omega, by go_num, fun j hj => by have := HE.out j hj; omega, bel_trans t1 d2⟩
          case measure => simp [intOf] <;> omega
      · have HE : Hid ((-1 : Int) = Y) := Lib.hid (by
          rw [← HY.out]
          exact (PO.idx_none (fun j hj => decide_eq_false (HN.out j (by omega)))).symm)
        go_wp2_with fail
        refine (K1.out _ hbel).mono ?_
        rintro e w1 ⟨rfl, d1⟩
        go_wp2_with fail
        go_ret
        exact ⟨ret_int HE.out, bel_trans hbel d1⟩
end Go.Proofs.Ythmjbfocpdiikaa
