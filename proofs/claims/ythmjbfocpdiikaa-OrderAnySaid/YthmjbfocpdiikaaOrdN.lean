/-
  The reference's Short and Room.
-/
import Derived.Test.YthmjbfocpdiikaaOrdM
namespace Go.Proofs.Ythmjbfocpdiikaa
open Go.RowKit
set_option linter.unusedVariables false
set_option linter.unusedSimpArgs false
attribute [local go_sem] drewN_alloc drewN_setCell

set_option maxRecDepth 100000 in
set_option maxHeartbeats 8000000 in
theorem ref28_Short {A : Option Addr} {n : Nat} {l : List PO.Mem} (c : Nat) (f : Int) {w : World} (h : MemAt w A n l) (hn : n ≤ 1000) :
    Calls Try.prog 49 #[.int .i64 f, .slice A n c] w (GivesOwn w (PO.ints (PO.short f l))) := by
  have hl := h.1
  have K1 := Lib.hid (ref28_May c f h)
  cases hm : PO.may f l
  · have hS : PO.short f l = pick [] n := by unfold PO.short PO.doneOf; rw [hm, if_neg (by simp), hl]
    rw [hS]
    rw [hm] at K1
    clear h hm hS
    obtain ⟨D, hDD⟩ : ∃ D : List Nat, [] = D := ⟨_, rfl⟩
    have hDm : ∀ k : Nat, decide ((k : Int) ∈ ([] : List Int)) = decide (k ∈ D) := fun k => by rw [← hDD]; simp
    have HDM := Lib.hid hDm
    have HDD := Lib.hid hDD
    clear hDD hDm
    go_enter Try.func49, Try.ntmps49
    go_wp2_with fail
    refine K1.out.mono ?_
    rintro e X ⟨rfl, hX⟩
    have HIN : Hid (∀ (k : Nat) W, Below X.heap.size X W → Calls Try.prog 74 #[.slice none 0 0, .int .i64 (k : Int)] W fun e w' => e = .returned (.bool (decide (k ∈ D))) ∧ Below W.heap.size W w') := Lib.hid (fun k W hW => by
      have K := ref28_in 0 (k : Int) (IntsAt.nil (w := W) (A := none))
      rwa [HDM.out k] at K)
    go_wp2_with fail
    go_loopw [5, 7] (fun out i wr => ShRel X n D out i wr) (fun _ i _ => n - (intOf i).toNat)
    case atStart => exact ⟨0, none, 0, Nat.zero_le _, rfl, rfl, OwnI.nil _ _, Below.refl _ _⟩
    case round =>
      obtain ⟨k, A1, c1, hk, rfl, rfl, hown, hbel⟩ := hrel
      have HO := Lib.hid hown
      clear hown
      have hlen := pick_le D k
      by_cases hlt : (k : Int) < (n : Int)
      · have KI := HIN.out k wr hbel
        have j1 : (0 : Int) ≤ (k : Int) := by omega
        by_cases hin : k ∈ D
        · rw [decide_eq_true hin] at KI
          replace KI := Lib.hid KI
          have HPK := Lib.hid (pick_yes (k := k) hin)
          clear hin
          go_wp2_with fail
          refine KI.out.mono ?_
          rintro e u1 ⟨rfl, t1⟩
          go_wp2_with fail
          go_roundw
          case rel => exact ⟨k + 1, A1, c1, by omega, by go_num, by rw [HPK.out], by rw [HPK.out]; exact HO.out.keep t1, bel_trans hbel t1⟩
          case measure => simp [intOf] <;> omega
        · rw [decide_eq_false hin] at KI
          replace KI := Lib.hid KI
          have HPK := Lib.hid (pick_no (k := k) hin)
          clear hin
          have hle : (PO.ints (pick D k)).length + 1 ≤ 1048576 := by rw [PO.ints_len]; omega
          go_wp2_with fail
          refine KI.out.mono ?_
          rintro e u1 ⟨rfl, t1⟩
          have v1 : Below X.heap.size X u1 := bel_trans hbel t1
          have hsz := v1.size
          go_wp2_with (at_builtin; refine app_listI rfl (.tmp 24) (.tmp 26) rfl X.heap.size _ (PO.ints (pick D k)) rfl (HO.out.keep (bel_alloc t1 _)) (some ⟨u1.heap.size, 0, none⟩) 1 1 [(k : Int)] rfl (src_oneI (by simp [go_sem])) hle (by simp; omega) ?_; intro v9 w9 ho9 hb9; rw [← PO.ints_snoc, ← HPK.out] at ho9; obtain ⟨A9, c9, rfl, _⟩ := ho9.slice; replace ho9 := Lib.hid ho9; have b9 : Below X.heap.size X w9 := bel_trans' (bel_alloc v1 _) hb9 (Nat.le_refl _))
          go_roundw
          case rel => exact ⟨k + 1, A9, c9, by omega, by go_num, rfl, ho9.out, b9⟩
          case measure => simp [intOf] <;> omega
      · obtain rfl : k = n := by omega
        have HFIN : Hid (GivesOwn w (PO.ints (pick [] k)) (.returned (.slice A1 (pick D k).length c1)) wr) := Lib.hid (by rw [HDD.out]; exact ⟨_, rfl, HO.out.mono hX.size, bel_trans' hX hbel hX.size⟩)
        go_wp2_with fail
        go_ret
        exact HFIN.out
  · have hS : PO.short f l = pick (PO.takenAll f l) n := by unfold PO.short PO.doneOf; rw [hm, if_pos rfl, hl]
    rw [hS]
    rw [hm] at K1
    have K2 : Hid (∀ W, Below w.heap.size w W → Calls Try.prog 65 #[.int .i64 f, .slice A n c] W fun e w' => ∃ v, e = .returned v ∧ OwnI W.heap.size w' v (PO.ints (PO.takenAll f l)) ∧ Below W.heap.size W w') := Lib.hid (fun W hW => ref28_Taken c f (h.keep hW) hn hm)
    clear h hm hS
    obtain ⟨D, hDD⟩ : ∃ D, PO.takenAll f l = D := ⟨_, rfl⟩
    rw [hDD] at K2
    have HDD := Lib.hid hDD
    clear hDD
    go_enter Try.func49, Try.ntmps49
    go_wp2_with fail
    refine K1.out.mono ?_
    rintro e w1 ⟨rfl, h1⟩
    go_wp2_with fail
    refine (K2.out _ h1).mono ?_
    rintro e X ⟨v, rfl, ov, h2⟩
    have hX : Below w.heap.size w X := bel_trans h1 h2
    obtain ⟨DA, dc, rfl, hdi⟩ := ov.slice
    have HIN : Hid (∀ (k : Nat) W, Below X.heap.size X W → Calls Try.prog 74 #[.slice DA D.length dc, .int .i64 (k : Int)] W fun e w' => e = .returned (.bool (decide (k ∈ D))) ∧ Below W.heap.size W w') := Lib.hid (fun k W hW => by
      have K := ref28_in dc (k : Int) (hdi.keep hW)
      have e : decide ((k : Int) ∈ PO.ints D) = decide (k ∈ D) := by simp only [PO.in_ints]
      rwa [e] at K)
    clear ov hdi
    go_wp2_with fail
    go_loopw [5, 7] (fun out i wr => ShRel X n D out i wr) (fun _ i _ => n - (intOf i).toNat)
    case atStart => exact ⟨0, none, 0, Nat.zero_le _, rfl, rfl, OwnI.nil _ _, Below.refl _ _⟩
    case round =>
      obtain ⟨k, A1, c1, hk, rfl, rfl, hown, hbel⟩ := hrel
      have HO := Lib.hid hown
      clear hown
      have hlen := pick_le D k
      by_cases hlt : (k : Int) < (n : Int)
      · have KI := HIN.out k wr hbel
        have j1 : (0 : Int) ≤ (k : Int) := by omega
        by_cases hin : k ∈ D
        · rw [decide_eq_true hin] at KI
          replace KI := Lib.hid KI
          have HPK := Lib.hid (pick_yes (k := k) hin)
          clear hin
          go_wp2_with fail
          refine KI.out.mono ?_
          rintro e u1 ⟨rfl, t1⟩
          go_wp2_with fail
          go_roundw
          case rel => exact ⟨k + 1, A1, c1, by omega, by go_num, by rw [HPK.out], by rw [HPK.out]; exact HO.out.keep t1, bel_trans hbel t1⟩
          case measure => simp [intOf] <;> omega
        · rw [decide_eq_false hin] at KI
          replace KI := Lib.hid KI
          have HPK := Lib.hid (pick_no (k := k) hin)
          clear hin
          have hle : (PO.ints (pick D k)).length + 1 ≤ 1048576 := by rw [PO.ints_len]; omega
          go_wp2_with fail
          refine KI.out.mono ?_
          rintro e u1 ⟨rfl, t1⟩
          have v1 : Below X.heap.size X u1 := bel_trans hbel t1
          have hsz := v1.size
          go_wp2_with (at_builtin; refine app_listI rfl (.tmp 24) (.tmp 26) rfl X.heap.size _ (PO.ints (pick D k)) rfl (HO.out.keep (bel_alloc t1 _)) (some ⟨u1.heap.size, 0, none⟩) 1 1 [(k : Int)] rfl (src_oneI (by simp [go_sem])) hle (by simp; omega) ?_; intro v9 w9 ho9 hb9; rw [← PO.ints_snoc, ← HPK.out] at ho9; obtain ⟨A9, c9, rfl, _⟩ := ho9.slice; replace ho9 := Lib.hid ho9; have b9 : Below X.heap.size X w9 := bel_trans' (bel_alloc v1 _) hb9 (Nat.le_refl _))
          go_roundw
          case rel => exact ⟨k + 1, A9, c9, by omega, by go_num, rfl, ho9.out, b9⟩
          case measure => simp [intOf] <;> omega
      · obtain rfl : k = n := by omega
        have HFIN : Hid (GivesOwn w (PO.ints (pick (PO.takenAll f l) k)) (.returned (.slice A1 (pick D k).length c1)) wr) := Lib.hid (by rw [HDD.out]; exact ⟨_, rfl, HO.out.mono hX.size, bel_trans' hX hbel hX.size⟩)
        go_wp2_with fail
        go_ret
        exact HFIN.out

end Go.Proofs.Ythmjbfocpdiikaa
