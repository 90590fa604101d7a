/-
  Chain, as rows: what is told of any number, and the rows behind a call. Plain Lean.
-/
import Derived.Test.YtdhcmnbajkpjiaaPlainChain
namespace Go.Proofs.Ytdhcmnbajkpjiaa.PC
set_option linter.unusedVariables false

/-- The first row that has a number. -/
def rowOf (l : Nat) (R : Nat → List Nat) (x : Int) : Option Nat := (List.range l).find? (fun i => decide (0 ≤ x ∧ x.toNat ∈ R i))
def ofV (l : Nat) (R : Nat → List Nat) (x : Int) : Int := match rowOf l R x with | some i => i | none => -1
/-- A number's place in a row. -/
def place (r : List Nat) (x : Int) : Int := if 0 ≤ x ∧ x.toNat ∈ r then (r.idxOf x.toNat : Nat) else -1
def nextV (l : Nat) (R : Nat → List Nat) (x : Int) : Int := match rowOf l R x with | some i => headD ((R i).drop ((R i).idxOf x.toNat + 1)) | none => -1
def backV (l : Nat) (R : Nat → List Nat) (x : Int) : Int := match rowOf l R x with | some i => lastD ((R i).take ((R i).idxOf x.toNat)) | none => -1
def rowV (l : Nat) (R : Nat → List Nat) (i : Int) : List Nat := if 0 ≤ i ∧ i < l then R i.toNat else []
def cut (r : List Nat) (x : Nat) : List Nat := r.take (r.idxOf x) ++ r.drop (r.idxOf x + 1)
def addB (n l : Nat) (R : Nat → List Nat) (i x : Int) : Bool := decide (0 ≤ i ∧ i < l ∧ 0 ≤ x ∧ x < n ∧ ofV l R x < 0)
def addR (n l : Nat) (R : Nat → List Nat) (i x : Int) : Nat → List Nat := if addB n l R i x then updR R i.toNat (R i.toNat ++ [x.toNat]) else R
def dropB (l : Nat) (R : Nat → List Nat) (x : Int) : Bool := decide (0 ≤ ofV l R x)
def dropR (l : Nat) (R : Nat → List Nat) (x : Int) : Nat → List Nat := match rowOf l R x with | some i => updR R i (cut (R i) x.toNat) | none => R

theorem rowOf_some {l : Nat} {R : Nat → List Nat} {x : Int} {i : Nat} (h : rowOf l R x = some i) : i < l ∧ 0 ≤ x ∧ x.toNat ∈ R i ∧ ∀ j, j < i → x.toNat ∉ R j := by
  unfold rowOf at h
  have h1 := List.find?_some h
  have h2 := List.mem_of_find?_eq_some h
  simp only [decide_eq_true_eq] at h1
  simp only [List.mem_range] at h2
  refine ⟨h2, h1.1, h1.2, fun j hj hm => ?_⟩
  rw [List.find?_range_eq_some] at h
  have := h.2.2 j hj
  simp [h1.1, hm] at this
theorem rowOf_none {l : Nat} {R : Nat → List Nat} {x : Int} (h : rowOf l R x = none) : ∀ i, i < l → ¬ (0 ≤ x ∧ x.toNat ∈ R i) := by
  unfold rowOf at h
  rw [List.find?_eq_none] at h
  intro i hi
  have := h i (by simpa using hi)
  simpa using this
theorem rowOf_first {l : Nat} {R : Nat → List Nat} {x : Int} {i : Nat} (hi : i < l) (h0 : 0 ≤ x) (hm : x.toNat ∈ R i) (hf : ∀ j, j < i → x.toNat ∉ R j) : rowOf l R x = some i := by
  unfold rowOf
  rw [List.find?_range_eq_some]
  refine ⟨by simp [h0, hm], by simpa using hi, fun j hj => ?_⟩
  simp [hf j hj]
theorem rowOf_not {l : Nat} {R : Nat → List Nat} {x : Int} (h : ∀ i, i < l → ¬ (0 ≤ x ∧ x.toNat ∈ R i)) : rowOf l R x = none := by
  unfold rowOf
  rw [List.find?_eq_none]
  intro i hi
  simpa using h i (by simpa using hi)

theorem split_idx {r : List Nat} {x : Nat} (h : x ∈ r) : r = r.take (r.idxOf x) ++ x :: r.drop (r.idxOf x + 1) := by
  have hl := List.idxOf_lt_length_iff.2 h
  have h1 := List.drop_eq_getElem_cons hl
  rw [List.getElem_idxOf] at h1
  rw [← h1, List.take_append_drop]

theorem place_of {r : List Nat} {x : Nat} {k : Nat} (hk : k < r.length) (h : r[k] = x) (hf : ∀ j (hj : j < r.length), j < k → r[j] ≠ x) : r.idxOf x = k := by
  have hm : x ∈ r := h ▸ List.getElem_mem hk
  have hl := List.idxOf_lt_length_iff.2 hm
  have h1 : r[r.idxOf x] = x := List.getElem_idxOf hl
  rcases Nat.lt_trichotomy (r.idxOf x) k with hlt | he | hgt
  · exact absurd h1 (hf _ hl hlt)
  · exact he
  · have h2 : r.take k ++ r[k] :: r.drop (k + 1) = r := by rw [← List.drop_eq_getElem_cons hk, List.take_append_drop]
    have h3 : (r.take k ++ r[k] :: r.drop (k + 1)).idxOf x ≤ k := by
      rw [h, List.idxOf_append]
      split
      · have := List.idxOf_lt_length_iff.2 ‹x ∈ r.take k›
        simp at this; omega
      · simp
        omega
    rw [h2] at h3
    omega

variable {n l : Nat} {S : CS} {R : Nat → List Nat}

theorem Inv.one (h : Inv n l S R) {i j : Nat} (hi : i < l) (hj : j < l) {x : Nat} (h1 : x ∈ R i) (h2 : x ∈ R j) : i = j := by
  have := h.ls i hi x h1
  have := h.ls j hj x h2
  omega
theorem Inv.ofV (h : Inv n l S R) {x : Nat} (hx : x < n) : S.ls x = ofV l R x := by
  unfold PC.ofV
  rcases h.node hx with ⟨i, hi, hm, hs⟩ | ⟨hn, hs, _⟩
  · rw [rowOf_first hi (by omega) (by simpa using hm) (fun j hj hj' => by
      have := h.one (j := j) hi (by omega) hm (by simpa using hj'); omega)]
    exact hs
  · rw [rowOf_not (fun i hi hh => hn i hi (by simpa using hh.2))]
    exact hs
theorem Inv.nextV (h : Inv n l S R) {x : Nat} (hx : x < n) : S.nx x = nextV l R x := by
  unfold PC.nextV
  rcases h.node hx with ⟨i, hi, hm, hs⟩ | ⟨hn, hs, _, h3⟩
  · rw [rowOf_first hi (by omega) (by simpa using hm) (fun j hj hj' => by
      have := h.one (j := j) hi (by omega) hm (by simpa using hj'); omega)]
    exact h.nx i hi x _ _ (by simpa using split_idx hm)
  · rw [rowOf_not (fun i hi hh => hn i hi (by simpa using hh.2))]
    exact h3
theorem Inv.backV (h : Inv n l S R) {x : Nat} (hx : x < n) : S.bk x = backV l R x := by
  unfold PC.backV
  rcases h.node hx with ⟨i, hi, hm, hs⟩ | ⟨hn, hs, h2, h3⟩
  · rw [rowOf_first hi (by omega) (by simpa using hm) (fun j hj hj' => by
      have := h.one (j := j) hi (by omega) hm (by simpa using hj'); omega)]
    exact h.bk i hi x _ _ (by simpa using split_idx hm)
  · rw [rowOf_not (fun i hi hh => hn i hi (by simpa using hh.2))]
    exact h2
theorem Inv.far (h : Inv n l S R) {x : Int} (hx : x < 0 ∨ (n : Int) ≤ x) : rowOf l R x = none :=
  rowOf_not fun i hi hh => by have := h.lt i hi _ hh.2; omega
theorem ofV_none {x : Int} (h : rowOf l R x = none) : PC.ofV l R x = -1 := by unfold PC.ofV; rw [h]
theorem nextV_none {x : Int} (h : rowOf l R x = none) : PC.nextV l R x = -1 := by unfold PC.nextV; rw [h]
theorem backV_none {x : Int} (h : rowOf l R x = none) : PC.backV l R x = -1 := by unfold PC.backV; rw [h]
theorem rowV_in {i : Nat} (hi : i < l) : rowV l R i = R i := by unfold rowV; rw [if_pos (by omega)]; simp
theorem rowV_out {i : Int} (hi : i < 0 ∨ (l : Int) ≤ i) : rowV l R i = [] := by unfold rowV; rw [if_neg (by omega)]

theorem Inv.addV (h : Inv n l S R) {i x : Int} (hb : addB n l R i x = true) : ∃ i' x' : Nat, i = i' ∧ x = x' ∧ i' < l ∧ x' < n ∧ S.ls x' < 0 ∧ Inv n l (S.add i' x') (addR n l R i x) := by
  have hb' := hb
  unfold addB at hb'
  simp only [decide_eq_true_eq] at hb'
  obtain ⟨h0, h1, h2, h3, h4⟩ := hb'
  obtain ⟨i', rfl⟩ : ∃ i' : Nat, i = i' := ⟨i.toNat, by omega⟩
  obtain ⟨x', rfl⟩ : ∃ x' : Nat, x = x' := ⟨x.toNat, by omega⟩
  have h5 := h.ofV (x := x') (by omega)
  refine ⟨i', x', rfl, rfl, by omega, by omega, by omega, ?_⟩
  unfold addR
  rw [if_pos hb]
  exact h.add (by omega) (by omega) (by omega)
theorem Inv.dropV (h : Inv n l S R) {x : Int} (hb : dropB l R x = true) : ∃ x' i : Nat, x = x' ∧ x' < n ∧ i < l ∧ S.ls x' = i ∧ x' ∈ R i ∧ Inv n l (S.drop x') (dropR l R x) := by
  unfold dropB PC.ofV at hb
  rcases hr : rowOf l R x with _ | i
  · rw [hr] at hb; simp at hb
  · obtain ⟨h1, h2, h3, h4⟩ := rowOf_some hr
    obtain ⟨x', rfl⟩ : ∃ x' : Nat, x = x' := ⟨x.toNat, by omega⟩
    rw [Int.toNat_natCast] at h3
    have hx := h.lt i h1 x' h3
    refine ⟨x', i, rfl, hx, h1, h.ls i h1 x' h3, h3, ?_⟩
    unfold dropR
    rw [hr]
    simp only [Int.toNat_natCast]
    exact h.drop h1 (split_idx h3)
theorem dropB_ofV {x : Int} : dropB l R x = decide (0 ≤ PC.ofV l R x) := rfl
theorem addR_no {i x : Int} (h : addB n l R i x = false) : addR n l R i x = R := by unfold addR; rw [h]; simp
theorem dropR_no {x : Int} (h : dropB l R x = false) : dropR l R x = R := by
  unfold dropB PC.ofV at h
  unfold dropR
  rcases hr : rowOf l R x with _ | i
  · rfl
  · rw [hr] at h; simp at h

/-- No nodes in any list. -/
def none0 : Nat → List Nat := fun _ => []
def CS.none : CS := ⟨fun _ => -1, fun _ => -1, fun _ => -1, fun _ => -1, fun _ => -1, fun _ => 0⟩
theorem inv_none (n l : Nat) : Inv n l CS.none none0 := by
  refine ⟨?_, ?_, ?_, ?_, ?_, ?_, ?_, ?_, ?_⟩
  all_goals (intros; simp_all [CS.none, none0])
end Go.Proofs.Ytdhcmnbajkpjiaa.PC
