/-
  Layer 28 (order): the walk of OrderSpare.
-/
import Derived.Test.YthmjbfocpdiikaaOrdJ
namespace Go.Proofs.Ythmjbfocpdiikaa
open Go.RowKit
set_option linter.unusedVariables false
set_option linter.unusedSimpArgs false
attribute [local go_sem] drewN_alloc drewN_setCell

theorem min_if (x y : Int) : min x y = if y < x then y else x := by split <;> omega
def LeastRel (w : World) (f : Int) (m : Nat) (xs : List Int) (ls i : Value) (wr : World) : Prop :=
  ∃ (k : Nat) (L : Int), k ≤ m ∧ i = .int .i64 k ∧ ls = .int .i64 L ∧ L ≤ f ∧ (0 < m → 0 ≤ L) ∧ (∀ j, j < k → L ≤ xs.getD j 0) ∧ Below w.heap.size w wr
set_option maxRecDepth 100000 in
set_option maxHeartbeats 8000000 in
theorem law28_OrderSpare {A : Option Addr} {n : Nat} {l : List PO.Mem} (c : Nat) (f : Int) (w : World) (h : MemAt w A n l) (bf : -9223372036854775808 ≤ f ∧ f ≤ 9223372036854775807) :
    Calls Try.prog 15 #[.int .i64 f, .slice A n c] w fun e w' => e = .returned (.bool true) ∧ Below w.heap.size w w' := by
  by_cases hn : 20 < n
  · have g1 : decide ((20 : Int) < (n : Int)) = true := decide_eq_true (by omega)
    have g1' : (20 : Int) < (n : Int) := by omega
    clear h
    go_enter Try.func15, Try.ntmps15
    go_wp2_with fail
    refine (law28_works _).mono ?_
    rintro e w9 ⟨rfl, d9⟩
    go_wp2_with fail
    exact bodyPost_ret (v := .bool true) (by simp [results, Try.results15, go_sem]) rfl ⟨rfl, by exact (by repeat (first | exact Below.refl _ _ | assumption | refine bel_drew ?_ | refine bel_drewN ?_ _ | refine bel_trans ?_ (by assumption)))⟩
  · have g1 : decide ((20 : Int) < (n : Int)) = false := decide_eq_false (by omega)
    have g1' : ¬ (20 : Int) < (n : Int) := by omega
    have hl := h.1
    have K1 : Hid (Calls Try.prog 53 #[.int .i64 f, .slice A n c] w fun e w' => ∃ A' n' c', e = .returned (.slice A' n' c') ∧ IntsAt w' A' n' (PO.spare f l) ∧ Below w.heap.size w w') := Lib.hid (order_Spare c f h (by omega))
    have K2 : Hid (∀ W, Below w.heap.size w W → Calls Try.prog 54 #[.int .i64 f, .slice A n c] W (GivesOwn W (PO.spare f l))) := Lib.hid (fun W hW => ref28_Spare c f (h.keep hW) (by omega))
    have K3 : Hid (∀ W, Below w.heap.size w W → Calls Try.prog 55 #[.int .i64 f, .slice A n c] W fun e w' => e = .returned (.int .i64 (PO.first f l)) ∧ Below W.heap.size W w') := Lib.hid (fun W hW => order_First c f (h.keep hW))
    have K4 : Hid (∀ W, Below w.heap.size w W → Calls Try.prog 56 #[.int .i64 f, .slice A n c] W fun e w' => e = .returned (.int .i64 (PO.first f l)) ∧ Below W.heap.size W w') := Lib.hid (fun W hW => ref28_First c f (h.keep hW))
    have K5 : Hid (∀ W L, Below w.heap.size w W → PO.safe L l = true → Calls Try.prog 42 #[.int .i64 L, .slice A n c] W fun e w' => e = .returned (.bool true) ∧ Below W.heap.size W w') := Lib.hid (fun W L hW hs => by
      have K := order_Safe c L (h.keep hW) (by omega)
      rwa [hs] at K)
    have HP : Hid ((PO.spare f l).length ≤ 20 ∧ (∀ i, i < (PO.spare f l).length → 0 ≤ (PO.spare f l).getD i 0) ∧ (0 < (PO.spare f l).length → 0 ≤ f) ∧ (0 < (PO.spare f l).length → ∀ L, 0 ≤ L → L ≤ f → (∀ i, i < (PO.spare f l).length → L ≤ (PO.spare f l).getD i 0) → PO.safe (f - L) l = true)) := Lib.hid (by
      cases hs : PO.safe f l
      · have e : PO.spare f l = [] := by unfold PO.spare; rw [hs, if_neg (by simp)]
        rw [e]
        exact ⟨by simp, fun i hi => absurd hi (by simp), fun h => absurd h (by simp), fun h => absurd h (by simp)⟩
      · have e := PO.spare_len hs
        rw [e]
        exact ⟨by omega, fun i hi => PO.spare_ge hs hi, fun _ => (PO.may_iff.1 (PO.safe_may hs)).1, fun _ L h0 hL hi => PO.spare_safe hs h0 hL hi⟩)
    generalize PO.spare f l = xs at *
    generalize PO.first f l = Y at *
    have g2 : (Y == Y) = true := by simp
    have g2' : (Y != Y) = false := by simp
    clear h
    go_enter Try.func15, Try.ntmps15
    go_wp2_with fail
    refine K1.out.mono ?_
    rintro e w1 ⟨SA, sn, sc, rfl, hsi, d1⟩
    have hsn := hsi.1
    replace hsi := Lib.hid hsi
    go_wp2_with fail
    refine (K2.out _ d1).mono ?_
    rintro e w2 ⟨v, rfl, ov, d2⟩
    have t2 : Below w.heap.size w w2 := bel_trans d1 d2
    obtain ⟨RA, rc, rfl, hri, _⟩ := ov.ints
    rw [hsn] at hri ⊢
    have KS : Hid (Calls Try.prog 27 #[.slice SA sn sc, .slice RA sn rc] w2 fun e w' => e = .returned (.bool true) ∧ Below w2.heap.size w2 w') := Lib.hid (by
      have K := base_SameInts sc rc (hsi.out.keep d2) hri
      rwa [decide_eq_true (rfl : xs = xs)] at K)
    clear ov hri
    go_wp2_with fail
    refine KS.out.mono ?_
    rintro e w3 ⟨rfl, d3⟩
    have t3 : Below w.heap.size w w3 := bel_trans t2 d3
    go_wp2_with fail
    refine (K3.out _ t3).mono ?_
    rintro e w4 ⟨rfl, d4⟩
    have t4 : Below w.heap.size w w4 := bel_trans t3 d4
    go_wp2_with fail
    refine (K4.out _ t4).mono ?_
    rintro e w5 ⟨rfl, d5⟩
    have t5 : Below w.heap.size w w5 := bel_trans t4 d5
    have HI : Hid (0 < sn → ∃ b off, SA = some ⟨b, off, none⟩ ∧ b < w1.heap.size ∧ ∀ W, Below w5.heap.size w5 W → ∀ i, i < sn → W.cell? ⟨b, off + i, none⟩ = some (.int .i64 (xs.getD i 0))) := Lib.hid (fun h0 => by
      obtain ⟨b, off, e, hb, hc⟩ := hsi.out.2.2 h0
      refine ⟨b, off, e, hb, fun W hW i hi => ?_⟩
      have s1 := d2.size; have s2 := d3.size; have s3 := d4.size; have s4 := d5.size
      exact (((hW.cell (p := ⟨b, off + i, none⟩) (by dsimp only; omega)).trans ((d5.cell (p := ⟨b, off + i, none⟩) (by dsimp only; omega)).trans ((d4.cell (p := ⟨b, off + i, none⟩) (by dsimp only; omega)).trans ((d3.cell (p := ⟨b, off + i, none⟩) (by dsimp only; omega)).trans (d2.cell (p := ⟨b, off + i, none⟩) (by dsimp only; omega)))))).trans (hc i hi)))
    rw [hsn] at HP
    obtain ⟨p1, p2, p3, p4⟩ := HP.out
    have HP2 := Lib.hid p2
    have HP4 := Lib.hid p4
    clear p2 p4
    go_wp2_with fail
    go_loopw [6, 7] (fun ls i wr => LeastRel w5 f sn xs ls i wr) (fun _ i _ => sn - (intOf i).toNat)
    case atStart => exact ⟨0, f, Nat.zero_le _, rfl, rfl, Int.le_refl _, p3, fun j hj => absurd hj (by omega), Below.refl _ _⟩
    case round =>
      obtain ⟨k, L, hk, rfl, rfl, hLf, hL0, hall, hbel⟩ := hrel
      have HALL := Lib.hid hall
      have HL0 := Lib.hid hL0
      have tw : Below w.heap.size w wr := bel_trans t5 hbel
      clear hall hL0
      by_cases hlt : (k : Int) < (sn : Int)
      · have hks : k < sn := by omega
        obtain ⟨b, off, rfl, hb, hc⟩ := HI.out (by omega)
        have xk := hc wr hbel k hks
        have x0 := HP2.out k hks
        have hL := HL0.out (by omega)
        obtain ⟨x, hx⟩ : ∃ x, xs.getD k 0 = x := ⟨_, rfl⟩
        rw [hx] at xk x0
        have j1 : (0 : Int) ≤ (k : Int) := by omega
        have j2 : (k : Int) < (sn : Int) := hlt
        have q1 : decide (x < 0) = false := decide_eq_false (by omega)
        have q2 : ¬ x < 0 := by omega
        obtain ⟨mn, hmn⟩ : ∃ mn, min L x = mn := ⟨_, rfl⟩
        have hmn' : (if x < L then x else L) = mn := by rw [← min_if]; exact hmn
        have hb1 : mn ≤ L ∧ mn ≤ x ∧ 0 ≤ mn := by omega
        replace hmn := Lib.hid hmn
        have HX := Lib.hid hx
        clear hx hc
        go_wp2_with fail
        go_roundw
        case rel => exact ⟨k + 1, mn, by omega, by go_num, rfl, by omega, fun _ => hb1.2.2, fun j hj => by
          rcases Nat.lt_or_ge j k with h1 | h1
          · have := HALL.out j h1; omega
          · obtain rfl : j = k := by omega
            rw [HX.out]; exact hb1.2.1, hbel⟩
        case measure => simp [intOf] <;> omega
      · by_cases h0 : sn = 0
        · subst h0
          go_wp2_with fail
          refine (law28_works _).mono ?_
          rintro e w9 ⟨rfl, d9⟩
          go_wp2_with fail
          exact bodyPost_ret (v := .bool true) (by simp [results, Try.results15, go_sem]) rfl ⟨rfl, by exact (by repeat (first | exact Below.refl _ _ | assumption | refine bel_drew ?_ | refine bel_drewN ?_ _ | refine bel_trans ?_ (by assumption)))⟩
        · have hL := HL0.out (by omega)
          have hsafe := HP4.out (by omega) L hL hLf (fun i hi => HALL.out i (by omega))
          have K6 := Lib.hid (K5.out wr (f - L) tw hsafe)
          have q0 : ¬ (sn : Int) = 0 := by omega
          have q1 : ((sn : Int) == 0) = false := by simp; omega
          have f0 := p3 (by omega)
          have wl : IntKind.i64.wrap (f - L) = f - L := IntWalk.i64_in _ (by omega)
          go_wp2_with fail
          refine K6.out.mono ?_
          rintro e w6 ⟨rfl, d6⟩
          have t6 : Below w.heap.size w w6 := bel_trans tw d6
          go_wp2_with fail
          refine (law28_works _).mono ?_
          rintro e w9 ⟨rfl, d9⟩
          go_wp2_with fail
          exact bodyPost_ret (v := .bool true) (by simp [results, Try.results15, go_sem]) rfl ⟨rfl, by exact (by repeat (first | exact Below.refl _ _ | assumption | refine bel_drew ?_ | refine bel_drewN ?_ _ | refine bel_trans ?_ (by assumption)))⟩
end Go.Proofs.Ythmjbfocpdiikaa
