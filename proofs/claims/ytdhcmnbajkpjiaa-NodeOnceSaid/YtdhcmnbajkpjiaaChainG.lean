/-
  Chain, as rows in memory: the contracts of the readers, of Add and of Drop.
-/
import Derived.Test.YtdhcmnbajkpjiaaPlainChain2
import Derived.Test.YtdhcmnbajkpjiaaChainF
namespace Go.Proofs.Ytdhcmnbajkpjiaa
open Go.RowKit
set_option linter.unusedVariables false

/-- A chain in memory whose lists have these rows. -/
def ChainRows (w : World) (C Nb Lb n l : Nat) (R : Nat → List Nat) : Prop := ∃ S, ChainAt w C Nb Lb n l S ∧ PC.Inv n l S R
theorem ChainRows.keep {w w' : World} {C Nb Lb n l : Nat} {R : Nat → List Nat} (h : ChainRows w C Nb Lb n l R) (hb : Below w.heap.size w w') : ChainRows w' C Nb Lb n l R := by
  obtain ⟨S, h1, h2⟩ := h
  exact ⟨S, h1.keep hb, h2⟩
theorem pcast {P : Program} {f : FuncId} {args : Array Value} {w : World} {K K' : Ending → World → Prop} (h : Calls P f args w K) (e : K = K') : Calls P f args w K' := e ▸ h

section
variable {w : World} {C Nb Lb n l : Nat} {R : Nat → List Nat}

theorem chain_Of (x : Int) (h : ChainRows w C Nb Lb n l R) :
    Calls Try.prog 23 #[.pointer (some ⟨C, 0, none⟩), .int .i64 x] w fun e w' => e = .returned (.int .i64 (PC.ofV l R x)) ∧ w = w' := by
  obtain ⟨S, h, hi⟩ := h
  by_cases hx : x < 0 ∨ (n : Int) ≤ x
  · rw [PC.ofV_none (hi.far hx)]
    exact chain_Of_no C Nb Lb n l S x w h hx
  · obtain ⟨x', rfl⟩ : ∃ x' : Nat, x = x' := ⟨x.toNat, by omega⟩
    rw [← hi.ofV (x := x') (by omega)]
    exact chain_Of_yes C Nb Lb n l S x' w h (by omega)

theorem chain_Next (x : Int) (h : ChainRows w C Nb Lb n l R) :
    Calls Try.prog 30 #[.pointer (some ⟨C, 0, none⟩), .int .i64 x] w fun e w' => e = .returned (.int .i64 (PC.nextV l R x)) ∧ w = w' := by
  obtain ⟨S, h, hi⟩ := h
  by_cases hx : x < 0 ∨ (n : Int) ≤ x
  · rw [PC.nextV_none (hi.far hx)]
    exact chain_Next_no C Nb Lb n l S x w h hx
  · obtain ⟨x', rfl⟩ : ∃ x' : Nat, x = x' := ⟨x.toNat, by omega⟩
    rw [← hi.nextV (x := x') (by omega)]
    exact chain_Next_yes C Nb Lb n l S x' w h (by omega)

theorem chain_Back (x : Int) (h : ChainRows w C Nb Lb n l R) :
    Calls Try.prog 27 #[.pointer (some ⟨C, 0, none⟩), .int .i64 x] w fun e w' => e = .returned (.int .i64 (PC.backV l R x)) ∧ w = w' := by
  obtain ⟨S, h, hi⟩ := h
  by_cases hx : x < 0 ∨ (n : Int) ≤ x
  · rw [PC.backV_none (hi.far hx)]
    exact chain_Back_no C Nb Lb n l S x w h hx
  · obtain ⟨x', rfl⟩ : ∃ x' : Nat, x = x' := ⟨x.toNat, by omega⟩
    rw [← hi.backV (x := x') (by omega)]
    exact chain_Back_yes C Nb Lb n l S x' w h (by omega)

theorem chain_First (x : Int) (h : ChainRows w C Nb Lb n l R) :
    Calls Try.prog 29 #[.pointer (some ⟨C, 0, none⟩), .int .i64 x] w fun e w' => e = .returned (.int .i64 (PC.headD (PC.rowV l R x))) ∧ w = w' := by
  obtain ⟨S, h, hi⟩ := h
  by_cases hx : x < 0 ∨ (l : Int) ≤ x
  · rw [PC.rowV_out hx]
    exact chain_First_no C Nb Lb n l S x w h hx
  · obtain ⟨x', rfl⟩ : ∃ x' : Nat, x = x' := ⟨x.toNat, by omega⟩
    rw [PC.rowV_in (by omega), ← hi.fn x' (by omega)]
    exact chain_First_yes C Nb Lb n l S x' w h (by omega)

theorem chain_Last (x : Int) (h : ChainRows w C Nb Lb n l R) :
    Calls Try.prog 22 #[.pointer (some ⟨C, 0, none⟩), .int .i64 x] w fun e w' => e = .returned (.int .i64 (PC.lastD (PC.rowV l R x))) ∧ w = w' := by
  obtain ⟨S, h, hi⟩ := h
  by_cases hx : x < 0 ∨ (l : Int) ≤ x
  · rw [PC.rowV_out hx]
    exact chain_Last_no C Nb Lb n l S x w h hx
  · obtain ⟨x', rfl⟩ : ∃ x' : Nat, x = x' := ⟨x.toNat, by omega⟩
    rw [PC.rowV_in (by omega), ← hi.fb x' (by omega)]
    exact chain_Last_yes C Nb Lb n l S x' w h (by omega)

theorem chain_Len (x : Int) (h : ChainRows w C Nb Lb n l R) :
    Calls Try.prog 28 #[.pointer (some ⟨C, 0, none⟩), .int .i64 x] w fun e w' => e = .returned (.int .i64 (((PC.rowV l R x).length : Nat))) ∧ w = w' := by
  obtain ⟨S, h, hi⟩ := h
  by_cases hx : x < 0 ∨ (l : Int) ≤ x
  · rw [PC.rowV_out hx]
    exact chain_Len_no C Nb Lb n l S x w h hx
  · obtain ⟨x', rfl⟩ : ∃ x' : Nat, x = x' := ⟨x.toNat, by omega⟩
    rw [PC.rowV_in (by omega), ← hi.fl x' (by omega)]
    exact chain_Len_yes C Nb Lb n l S x' w h (by omega)

theorem chain_Add (i x : Int) (h : ChainRows w C Nb Lb n l R) :
    Calls Try.prog 19 #[.pointer (some ⟨C, 0, none⟩), .int .i64 i, .int .i64 x] w fun e w' => e = .returned (.bool (PC.addB n l R i x)) ∧ ChainRows w' C Nb Lb n l (PC.addR n l R i x) ∧ Off Nb Lb w w' := by
  obtain ⟨S, h, hi⟩ := h
  by_cases hb : PC.addB n l R i x = true
  · obtain ⟨i', x', rfl, rfl, h1, h2, h3, h4⟩ := hi.addV hb
    rw [hb]
    have hfl := hi.fl i' h1
    have hlen := hi.len h1
    have hbn := h.bn
    have hfb := hi.fb i' h1
    rcases PC.lastD_cases (R i') with ⟨e1, e2⟩ | ⟨c, y, e1, e2⟩
    · exact (chain_Add_first C Nb Lb n l S x' i' w h h2 h1 h3 (hfb.trans e2) (by omega)).mono fun e w' ⟨a, b, c⟩ => ⟨a, ⟨_, b, h4⟩, c⟩
    · exact (chain_Add_far C Nb Lb n l S x' i' w h h2 h1 h3 y (hfb.trans e2) (hi.lt i' h1 y (by rw [e1]; simp)) (by omega)).mono fun e w' ⟨a, b, c⟩ => ⟨a, ⟨_, b, h4⟩, c⟩
  · have hb' : PC.addB n l R i x = false := by simpa using hb
    rw [PC.addR_no hb', hb']
    have hb2 := hb'
    unfold PC.addB at hb2
    simp only [decide_eq_false_iff_not] at hb2
    have fin : ∀ (e : Ending) (w' : World), (e = .returned (.bool false) ∧ w = w') → (e = .returned (.bool false) ∧ ChainRows w' C Nb Lb n l R ∧ Off Nb Lb w w') := by
      rintro e w' ⟨rfl, rfl⟩
      exact ⟨rfl, ⟨S, h, hi⟩, Off.refl _ _ _⟩
    by_cases g1 : i < 0 ∨ (l : Int) ≤ i
    · exact (chain_Add_nolist C Nb Lb n l S x i w h g1).mono fin
    · obtain ⟨i', rfl⟩ : ∃ i' : Nat, i = i' := ⟨i.toNat, by omega⟩
      by_cases g2 : x < 0 ∨ (n : Int) ≤ x
      · exact (chain_Add_nonode C Nb Lb n l S x i' w h (by omega) g2).mono fin
      · obtain ⟨x', rfl⟩ : ∃ x' : Nat, x = x' := ⟨x.toNat, by omega⟩
        exact (chain_Add_inlist C Nb Lb n l S x' i' w h (by omega) (by omega) (by rw [hi.ofV (by omega)]; omega)).mono fin

theorem chain_Drop_no (x : Int) (h : ChainRows w C Nb Lb n l R) (hx : PC.ofV l R x < 0) :
    Calls Try.prog 21 #[.pointer (some ⟨C, 0, none⟩), .int .i64 x] w fun e w' => e = .returned (.bool false) ∧ w = w' := by
  have c := fun W => chain_Of (w := W) (C := C) (Nb := Nb) (Lb := Lb) (n := n) (l := l) (R := R) x
  have K := Lib.hid c
  have H := Lib.hid h
  generalize PC.ofV l R x = v at *
  clear c h
  go_enter Try.func21, Try.ntmps21
  go_wp2_with fail
  refine (K.out _ H.out).mono ?_
  rintro e w1 ⟨rfl, rfl⟩
  go_wp2_with fail
  go_ret
  exact ⟨rfl, rfl⟩

theorem chain_Drop (x : Int) (h : ChainRows w C Nb Lb n l R) :
    Calls Try.prog 21 #[.pointer (some ⟨C, 0, none⟩), .int .i64 x] w fun e w' => e = .returned (.bool (PC.dropB l R x)) ∧ ChainRows w' C Nb Lb n l (PC.dropR l R x) ∧ Off Nb Lb w w' := by
  by_cases hb : PC.dropB l R x = true
  · obtain ⟨S, h, hi⟩ := h
    obtain ⟨x', i, rfl, h1, h2, h3, h4, h5⟩ := hi.dropV hb
    rw [hb]
    have hfl := hi.fl i h2
    have hlen := hi.len h2
    have hbn := h.bn
    have hs := PC.split_idx h4
    have kb := hi.bk i h2 x' _ _ hs
    have kn := hi.nx i h2 x' _ _ hs
    have fin : ∀ (e : Ending) (w' : World), (e = .returned (.bool true) ∧ ChainAt w' C Nb Lb n l (S.drop x') ∧ Off Nb Lb w w') → (e = .returned (.bool true) ∧ ChainRows w' C Nb Lb n l (PC.dropR l R x') ∧ Off Nb Lb w w') :=
      fun e w' ⟨a, b, c⟩ => ⟨a, ⟨_, b, h5⟩, c⟩
    rcases PC.lastD_cases ((R i).take ((R i).idxOf x')) with ⟨e1, e2⟩ | ⟨c, y, e1, e2⟩
    · rcases PC.headD_cases ((R i).drop ((R i).idxOf x' + 1)) with ⟨f1, f2⟩ | ⟨d, z, f1, f2⟩
      · exact (chain_Drop_o C Nb Lb n l S x' w h h1 i h3 h2 (kb.trans e2) (kn.trans f2) (by omega)).mono fin
      · exact (chain_Drop_f C Nb Lb n l S x' w h h1 i h3 h2 (kb.trans e2) z (kn.trans f2) (hi.lt i h2 z (List.mem_of_mem_drop (i := (R i).idxOf x' + 1) (by rw [f1]; simp))) (by omega)).mono fin
    · have hy := hi.lt i h2 y (List.mem_of_mem_take (i := (R i).idxOf x') (by rw [e1]; simp))
      rcases PC.headD_cases ((R i).drop ((R i).idxOf x' + 1)) with ⟨f1, f2⟩ | ⟨d, z, f1, f2⟩
      · exact (chain_Drop_b C Nb Lb n l S x' w h h1 i h3 h2 y (kb.trans e2) hy (kn.trans f2) (by omega)).mono fin
      · exact (chain_Drop_bf C Nb Lb n l S x' w h h1 i h3 h2 y (kb.trans e2) hy z (kn.trans f2) (hi.lt i h2 z (List.mem_of_mem_drop (i := (R i).idxOf x' + 1) (by rw [f1]; simp))) (by omega)).mono fin
  · have hb' : PC.dropB l R x = false := by simpa using hb
    rw [PC.dropR_no hb', hb']
    refine (chain_Drop_no x h (by rw [PC.dropB_ofV] at hb'; simpa using hb')).mono ?_
    rintro e w' ⟨rfl, rfl⟩
    exact ⟨rfl, h, Off.refl _ _ _⟩
end

theorem chain_Drop_nil (x : Int) (w : World) :
    Calls Try.prog 21 #[.pointer none, .int .i64 x] w fun e w' => e = .returned (.bool false) ∧ w = w' := by
  go_enter Try.func21, Try.ntmps21
  go_wp2_with fail
  refine (chain_Of_nil x _).mono ?_
  rintro e w1 ⟨rfl, rfl⟩
  go_wp2_with fail
  go_ret
  exact ⟨rfl, rfl⟩
end Go.Proofs.Ytdhcmnbajkpjiaa
