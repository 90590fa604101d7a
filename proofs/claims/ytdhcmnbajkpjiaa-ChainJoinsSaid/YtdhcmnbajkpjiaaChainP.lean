/-
  Chain and reference: the contracts of Move.
-/
import Derived.Test.YtdhcmnbajkpjiaaPlainJoin
import Derived.Test.YtdhcmnbajkpjiaaChainM
namespace Go.Proofs.Ytdhcmnbajkpjiaa
open Go.RowKit
set_option linter.unusedVariables false
attribute [local go_sem] drewN_alloc drewN_setCell

section
variable {w0 w : World} {C Nb Lb n l : Nat} {R : Nat → List Nat}
theorem chain_has (i : Int) (h : ChainRows w C Nb Lb n l R) :
    Calls Try.prog 101 #[.pointer (some ⟨C, 0, none⟩), .int .i64 i] w fun e w' => e = .returned (.bool (decide (0 ≤ i ∧ i < (l : Int)))) ∧ w = w' := by
  obtain ⟨S, h, hi⟩ := h
  by_cases hx : i < 0 ∨ (l : Int) ≤ i
  · rw [decide_eq_false (by omega)]
    exact chain_has_no C Lb l i w h.c1 hx h.bl
  · obtain ⟨i, rfl⟩ : ∃ i' : Nat, i = i' := ⟨i.toNat, by omega⟩
    rw [decide_eq_true (by omega)]
    exact chain_has_yes C Lb l i w h.c1 (by omega) h.bl

theorem chain_Move_nil (i x : Int) (w : World) :
    Calls Try.prog 32 #[.pointer none, .int .i64 i, .int .i64 x] w fun e w' => e = .returned (.bool false) ∧ w = w' := by
  go_enter Try.func32, Try.ntmps32
  go_wp2_with fail
  refine (chain_has_nil i _).mono ?_
  rintro e w1 ⟨rfl, rfl⟩
  go_wp2_with fail
  go_ret
  exact ⟨rfl, rfl⟩

theorem chain_Move_no (i x : Int) (h : ChainRows w C Nb Lb n l R) (hc : PC.moveC l R i x = false) :
    Calls Try.prog 32 #[.pointer (some ⟨C, 0, none⟩), .int .i64 i, .int .i64 x] w fun e w' => e = .returned (.bool false) ∧ w = w' := by
  have H := chain_has i h
  have O := chain_Of x h
  unfold PC.moveC at hc
  simp only [decide_eq_false_iff_not] at hc
  generalize PC.ofV l R x = o at *
  by_cases hi : 0 ≤ i ∧ i < (l : Int)
  · rw [decide_eq_true hi] at H
    have ho : o < 0 := by omega
    replace H := Lib.hid H
    replace O := Lib.hid O
    clear hc hi h
    go_enter Try.func32, Try.ntmps32
    go_wp2_with fail
    refine H.out.mono ?_
    rintro e w1 ⟨rfl, rfl⟩
    go_wp2_with fail
    refine O.out.mono ?_
    rintro e w1 ⟨rfl, rfl⟩
    go_wp2_with fail
    go_ret
    exact ⟨rfl, rfl⟩
  · rw [decide_eq_false hi] at H
    replace H := Lib.hid H
    clear hc hi h O
    go_enter Try.func32, Try.ntmps32
    go_wp2_with fail
    refine H.out.mono ?_
    rintro e w1 ⟨rfl, rfl⟩
    go_wp2_with fail
    go_ret
    exact ⟨rfl, rfl⟩

theorem over_Move (i x : Int) (h : ChainOver w0 w C Nb Lb n l R) :
    Calls Try.prog 32 #[.pointer (some ⟨C, 0, none⟩), .int .i64 i, .int .i64 x] w fun e w' => e = .returned (.bool (PC.moveB n l R i x)) ∧ ChainOver w0 w' C Nb Lb n l (PC.moveR n l R i x) ∧ Off Nb Lb w w' := by
  by_cases hc : PC.moveC l R i x = true
  · have eB : PC.moveB n l R i x = PC.addB n l (PC.dropR l R x) i x := by unfold PC.moveB; rw [hc]; rfl
    have eR : PC.moveR n l R i x = PC.addR n l (PC.dropR l R x) i x := by unfold PC.moveR; rw [if_pos hc]
    rw [eB, eR]
    unfold PC.moveC at hc
    simp only [decide_eq_true_eq] at hc
    obtain ⟨h1, h2, h3⟩ := hc
    have H := chain_has i h.rows
    rw [decide_eq_true ⟨h1, h2⟩] at H
    have O := chain_Of x h.rows
    have D := over_Drop x h
    have eD : PC.dropB l R x = true := by unfold PC.dropB; simpa using h3
    rw [eD] at D
    obtain ⟨R2, hR2⟩ : ∃ R2, PC.dropR l R x = R2 := ⟨_, rfl⟩
    rw [hR2] at D ⊢
    have A := fun W (hW : ChainOver w0 W C Nb Lb n l R2) => over_Add i x hW
    obtain ⟨b, hb⟩ : ∃ b, PC.addB n l R2 i x = b := ⟨_, rfl⟩
    rw [hb] at A ⊢
    obtain ⟨R3, hR3⟩ : ∃ R3, PC.addR n l R2 i x = R3 := ⟨_, rfl⟩
    rw [hR3] at A ⊢
    generalize PC.ofV l R x = o at *
    replace H := Lib.hid H
    replace O := Lib.hid O
    replace D := Lib.hid D
    replace A := Lib.hid A
    clear eB eR eD hR2 hR3 hb h h1 h2
    go_enter Try.func32, Try.ntmps32
    go_wp2_with fail
    refine H.out.mono ?_
    rintro e w1 ⟨rfl, rfl⟩
    go_wp2_with fail
    refine O.out.mono ?_
    rintro e w1 ⟨rfl, rfl⟩
    go_wp2_with fail
    refine D.out.mono ?_
    rintro e w2 ⟨rfl, h2, o2⟩
    replace h2 := Lib.hid h2
    replace o2 := Lib.hid o2
    go_wp2_with fail
    refine (A.out _ h2.out).mono ?_
    rintro e w3 ⟨rfl, h3, o3⟩
    replace h3 := Lib.hid h3
    have o4 := Lib.hid (o2.out.trans o3)
    clear o3
    go_wp2_with fail
    go_ret
    exact ⟨rfl, h3.out, o4.out⟩
  · have hc' : PC.moveC l R i x = false := by simpa using hc
    have eB : PC.moveB n l R i x = false := by unfold PC.moveB; rw [hc']; rfl
    have eR : PC.moveR n l R i x = R := by unfold PC.moveR; rw [if_neg hc]
    rw [eB, eR]
    refine (chain_Move_no i x h.rows hc').mono ?_
    rintro e w' ⟨rfl, rfl⟩
    exact ⟨rfl, h, Off.refl _ _ _⟩
end

section
variable {A : Option Addr} {B l n : Nat} {R : Nat → List Nat} {w : World}
theorem ref05_Move_no (c : Nat) (i x : Int) (h : RowsAt B w A l R) (hc : PC.moveC l R i x = false) :
    Calls Try.prog 31 #[.slice A l c, .int .i64 n, .int .i64 i, .int .i64 x] w (GivesRowsB B w l R false) := by
  have O := Lib.hid (ref05_Of A l c R x w h)
  have H := Lib.hid h
  have hl := h.1
  unfold PC.moveC at hc
  simp only [decide_eq_false_iff_not] at hc
  generalize PC.ofV l R x = o at *
  clear h
  by_cases h1 : i < 0
  · clear hc
    go_enter Try.func31, Try.ntmps31
    go_wp2_with fail
    go_ret2
    exact ⟨A, c, rfl, H.out, Below.refl _ _⟩
  · by_cases h2 : (l : Int) ≤ i
    · clear hc
      have h1' : 0 ≤ i := by omega
      go_enter Try.func31, Try.ntmps31
      go_wp2_with fail
      go_ret2
      exact ⟨A, c, rfl, H.out, Below.refl _ _⟩
    · have h1' : 0 ≤ i := by omega
      have h2' : i < (l : Int) := by omega
      have h5 : o < 0 := by omega
      clear h1 h2 hc
      go_enter Try.func31, Try.ntmps31
      go_wp2_with fail
      refine O.out.mono ?_
      rintro e w1 ⟨rfl, rfl⟩
      go_wp2_with fail
      go_ret2
      exact ⟨A, c, rfl, H.out, Below.refl _ _⟩

theorem cut_len (r : List Nat) (x : Nat) : (PC.cut r x).length ≤ r.length := by
  unfold PC.cut
  simp
  omega
theorem dropR_len (x : Int) (h : ∀ i, i < l → (R i).length ≤ 1048576) : ∀ i, i < l → (PC.dropR l R x i).length ≤ 1048576 := by
  intro i hi
  unfold PC.dropR
  rcases PC.rowOf l R x with _ | j
  · exact h i hi
  · show (PC.updR R j (PC.cut (R j) x.toNat) i).length ≤ 1048576
    by_cases e : i = j
    · subst e; rw [PC.updR_same]; have := cut_len (R i) x.toNat; have := h i hi; omega
    · rw [PC.updR_other e]; exact h i hi

theorem ref05_Move (c : Nat) (i x : Int) (h : RowsAt B w A l R) (hn : n ≤ 1048576) (hlen : ∀ i, i < l → (R i).length ≤ 1048576) :
    Calls Try.prog 31 #[.slice A l c, .int .i64 n, .int .i64 i, .int .i64 x] w (GivesRowsB B w l (PC.moveR n l R i x) (PC.moveB n l R i x)) := by
  by_cases hc : PC.moveC l R i x = true
  · have eB : PC.moveB n l R i x = PC.addB n l (PC.dropR l R x) i x := by unfold PC.moveB; rw [hc]; rfl
    have eR : PC.moveR n l R i x = PC.addR n l (PC.dropR l R x) i x := by unfold PC.moveR; rw [if_pos hc]
    rw [eB, eR]
    unfold PC.moveC at hc
    simp only [decide_eq_true_eq] at hc
    obtain ⟨h1, h2, h3⟩ := hc
    have O := Lib.hid (ref05_Of A l c R x w h)
    have D := Lib.hid (ref05_Drop c x h hlen)
    have len2 := dropR_len x hlen
    have hl := h.1
    obtain ⟨R2, hR2⟩ : ∃ R2, PC.dropR l R x = R2 := ⟨_, rfl⟩
    rw [hR2] at D len2 ⊢
    generalize PC.dropB l R x = db at *
    have A2 := Lib.hid (fun (W : World) (A' : Option Addr) (c' : Nat) (hW : RowsAt B W A' l R2) => ref05_Add (n := n) c' i x hW hn len2)
    generalize PC.ofV l R x = o at *
    clear h hR2 len2 hlen eB eR
    go_enter Try.func31, Try.ntmps31
    go_wp2_with fail
    refine O.out.mono ?_
    rintro e w1 ⟨rfl, rfl⟩
    go_wp2_with fail
    refine D.out.mono ?_
    rintro e w2 ⟨A', c', rfl, r2, b2⟩
    replace r2 := Lib.hid r2
    replace b2 := Lib.hid b2
    go_wp2_with fail
    refine (A2.out _ _ c' r2.out).mono ?_
    rintro e w3 ⟨A3, c3, rfl, r3, b3⟩
    replace r3 := Lib.hid r3
    have b4 := Lib.hid (bel_trans b2.out b3)
    clear b3
    go_wp2_with fail
    go_ret2
    exact ⟨A3, c3, rfl, r3.out, b4.out⟩
  · have hc' : PC.moveC l R i x = false := by simpa using hc
    have eB : PC.moveB n l R i x = false := by unfold PC.moveB; rw [hc']; rfl
    have eR : PC.moveR n l R i x = R := by unfold PC.moveR; rw [if_neg hc]
    rw [eB, eR]
    exact ref05_Move_no c i x h hc'
end
end Go.Proofs.Ytdhcmnbajkpjiaa
