/-
  ChainMoves, as rows. Plain Lean.
-/
import Derived.Test.YtdhcmnbajkpjiaaPlainChain2
namespace Go.Proofs.Ytdhcmnbajkpjiaa.PC
set_option linter.unusedVariables false

theorem ofV_two {R : Nat → List Nat} {x : Nat} : ofV 2 R x = if x ∈ R 0 then 0 else if x ∈ R 1 then 1 else -1 := by
  by_cases h0 : x ∈ R 0
  · rw [if_pos h0]
    unfold ofV
    rw [rowOf_first (i := 0) (by omega) (by omega) (by simpa using h0) (fun j hj => by omega)]
    rfl
  · rw [if_neg h0]
    by_cases h1 : x ∈ R 1
    · rw [if_pos h1]
      unfold ofV
      rw [rowOf_first (i := 1) (by omega) (by omega) (by simpa using h1) (fun j hj => by
        have : j = 0 := by omega
        subst this; simpa using h0)]
      rfl
    · rw [if_neg h1]
      refine ofV_none (rowOf_not fun i hi hh => ?_)
      have hm := hh.2
      rw [Int.toNat_natCast] at hm
      have : i = 0 ∨ i = 1 := by omega
      rcases this with rfl | rfl
      · exact h0 hm
      · exact h1 hm

/-- Rows behind the calls that put these nodes into the first of two lists. -/
def addAll (l : List Int) : Nat → List Nat := l.foldl (fun R x => addR 256 2 R 0 x) none0
theorem addAll_snoc (l : List Int) (x : Int) : addAll (l ++ [x]) = addR 256 2 (addAll l) 0 x := by simp [addAll]

structure AllIn (l : List Int) (R : Nat → List Nat) : Prop where
  one : R 1 = []
  nd : (R 0).Nodup
  mem : ∀ x : Nat, x ∈ R 0 ↔ (x : Int) ∈ l

theorem addAll_in (l : List Int) : (∀ x ∈ l, 0 ≤ x ∧ x < 256) → AllIn l (addAll l) := by
  intro hl
  have key : ∀ (r : List Int), (∀ x ∈ r, 0 ≤ x ∧ x < 256) → ∀ (R : Nat → List Nat) (m : List Int), AllIn m R → AllIn (m ++ r) (r.foldl (fun R x => addR 256 2 R 0 x) R) := by
    intro r
    induction r with
    | nil => intro _ R m h; simpa using h
    | cons x r ih =>
      intro hb R m h
      have hx := hb x (by simp)
      have e : m ++ x :: r = (m ++ [x]) ++ r := by simp
      rw [e]
      refine ih (fun y hy => hb y (by simp [hy])) _ _ ?_
      show AllIn (m ++ [x]) (addR 256 2 R 0 x)
      obtain ⟨x', rfl⟩ : ∃ x' : Nat, x = x' := ⟨x.toNat, by omega⟩
      by_cases hm : x' ∈ R 0
      · have hno : addB 256 2 R 0 x' = false := by unfold addB; rw [ofV_two, if_pos hm]; simp
        rw [addR_no hno]
        exact ⟨h.one, h.nd, fun y => by
          rw [h.mem y]
          have := (h.mem x').1 hm
          simp only [List.mem_append, List.mem_singleton]
          refine ⟨Or.inl, fun hh => hh.elim id fun e => by rw [e]; exact this⟩⟩
      · have hyes : addB 256 2 R 0 x' = true := by
          unfold addB; rw [ofV_two, if_neg hm, h.one]; simp; omega
        unfold addR
        rw [if_pos hyes]
        refine ⟨?_, ?_, ?_⟩
        · show updR R 0 _ 1 = []
          rw [updR_other (by omega)]; exact h.one
        · show (updR R 0 _ 0).Nodup
          rw [updR_same, List.nodup_append]
          refine ⟨h.nd, by simp, ?_⟩
          intro a ha b hb e
          simp at hb
          subst e hb
          exact hm ha
        · intro y
          show y ∈ updR R 0 _ 0 ↔ _
          rw [updR_same]
          simp only [List.mem_append, h.mem y, Int.toNat_natCast, List.mem_singleton, Int.toNat_zero]
          refine ⟨fun hh => hh.imp id (fun e => by rw [e]), fun hh => hh.imp id (fun e => by omega)⟩
  have := key l hl none0 [] ⟨rfl, by simp [none0], by simp [none0]⟩
  simpa [addAll] using this

theorem cut_filter {r : List Nat} (h : r.Nodup) (x : Nat) (hx : x ∈ r) : cut r x = r.filter (fun y => y != x) := by
  have hs := split_idx hx
  unfold cut
  generalize r.take (r.idxOf x) = a at *
  generalize r.drop (r.idxOf x + 1) = b at *
  rw [hs] at h ⊢
  rw [List.nodup_append] at h
  have h1 : a.filter (fun y => y != x) = a := List.filter_eq_self.2 fun y hy => by
    have := h.2.2 y hy x (by simp)
    simpa using this
  have h2 : b.filter (fun y => y != x) = b := List.filter_eq_self.2 fun y hy => by
    have := (List.nodup_cons.1 h.2.1).1
    simp only [bne_iff_ne, ne_eq]
    rintro rfl
    exact this hy
  rw [List.filter_append, List.filter_cons, h1, h2]
  simp

/-- What the law asks of the rows. -/
theorem moves {l : List Int} {R : Nat → List Nat} (h : AllIn l R) {x : Nat} (hx : (x : Int) ∈ l) (h255 : x ≠ 255) (hb : x < 256) :
    let R2 := addR 256 2 R 1 255
    let R3 := dropR 2 R2 x
    let R4 := addR 256 2 R3 1 x
    rowV 2 R2 0 = R 0 ∧ dropB 2 R2 x = true ∧ addB 256 2 R3 1 x = true ∧ lastD (rowV 2 R4 1) = x ∧ ofV 2 R4 x = 1 ∧ rowV 2 R4 0 = (R 0).filter (fun y => y != x) := by
  have hm := (h.mem x).2 hx
  intro R2 R3 R4
  have e20 : R2 0 = R 0 := by
    show addR 256 2 R 1 255 0 = R 0
    unfold addR
    split
    · exact updR_other (by omega)
    · rfl
  have e21 : x ∉ R2 1 := by
    show x ∉ addR 256 2 R 1 255 1
    unfold addR
    split
    · rw [show (1 : Int).toNat = 1 from rfl, updR_same, h.one]
      simp; omega
    · rw [h.one]; simp
  have hm2 : x ∈ R2 0 := by rw [e20]; exact hm
  have r2 : rowOf 2 R2 x = some 0 := rowOf_first (by omega) (by omega) (by simpa using hm2) (fun j hj => by omega)
  have d2 : dropB 2 R2 x = true := by unfold dropB; rw [ofV_two, if_pos hm2]; simp
  have e3 : R3 = updR R2 0 (cut (R2 0) x) := by
    show dropR 2 R2 x = _
    unfold dropR
    rw [r2]; simp
  have f3 : cut (R2 0) x = (R 0).filter (fun y => y != x) := by rw [e20]; exact cut_filter h.nd x hm
  have e30 : R3 0 = (R 0).filter (fun y => y != x) := by rw [e3, updR_same, f3]
  have e31 : R3 1 = R2 1 := by rw [e3, updR_other (by omega)]
  have n30 : x ∉ R3 0 := by rw [e30]; simp
  have a3 : addB 256 2 R3 1 x = true := by
    unfold addB
    rw [ofV_two, if_neg n30, if_neg (by rw [e31]; exact e21)]
    simp; omega
  have e4 : R4 = updR R3 1 (R3 1 ++ [x]) := by
    show addR 256 2 R3 1 x = _
    unfold addR
    rw [if_pos a3]; simp
  have e41 : R4 1 = R3 1 ++ [x] := by rw [e4, updR_same]
  have e40 : R4 0 = R3 0 := by rw [e4, updR_other (by omega)]
  refine ⟨?_, d2, a3, ?_, ?_, ?_⟩
  · rw [show (0 : Int) = ((0 : Nat) : Int) from rfl, rowV_in (by omega), e20]
  · rw [show (1 : Int) = ((1 : Nat) : Int) from rfl, rowV_in (by omega), e41, lastD_snoc]
  · rw [ofV_two, if_neg (by rw [e40]; exact n30), if_pos (by rw [e41]; simp)]
  · rw [show (0 : Int) = ((0 : Nat) : Int) from rfl, rowV_in (by omega), e40, e30]

theorem moves_rows {l : List Int} {R : Nat → List Nat} (h : AllIn l R) {x : Nat} (hx : (x : Int) ∈ l) (h255 : x ≠ 255) (hb : x < 256) :
    ∃ R2 R3 R4, addR 256 2 R 1 255 = R2 ∧ dropR 2 R2 x = R3 ∧ addR 256 2 R3 1 x = R4 ∧
    rowV 2 R2 0 = R 0 ∧ dropB 2 R2 x = true ∧ addB 256 2 R3 1 x = true ∧ lastD (rowV 2 R4 1) = x ∧ ofV 2 R4 x = 1 ∧ rowV 2 R4 0 = (R 0).filter (fun y => y != x) :=
  ⟨_, _, _, rfl, rfl, rfl, moves h hx h255 hb⟩

/-- Going through: what is left at a place. -/
theorem filter_at {W : List Int} {p : Int → Bool} {k : Nat} (hk : k < W.length) (hp : p W[k] = true) :
    ((W.take k).filter p).length < (W.filter p).length ∧ (W.filter p).getD ((W.take k).filter p).length 0 = W[k] ∧ ((W.take (k + 1)).filter p).length = ((W.take k).filter p).length + 1 := by
  have e : W.filter p = (W.take k).filter p ++ W[k] :: (W.drop (k + 1)).filter p := by
    conv => lhs; rw [← List.take_append_drop k W, List.filter_append, List.drop_eq_getElem_cons hk, List.filter_cons, if_pos hp]
  refine ⟨by rw [e]; simp, by rw [e]; simp, ?_⟩
  rw [List.take_succ_eq_append_getElem hk, List.filter_append]
  simp [hp]
theorem filter_skip {W : List Int} {p : Int → Bool} {k : Nat} (hk : k < W.length) (hp : p W[k] = false) : ((W.take (k + 1)).filter p).length = ((W.take k).filter p).length := by
  rw [List.take_succ_eq_append_getElem hk, List.filter_append]
  simp [hp]
end Go.Proofs.Ytdhcmnbajkpjiaa.PC
