/-
  Plain: members and the order in which all may end.
-/
import Derived.Test.YthmjbfocpdiikaaPlainAccount
namespace Go.Proofs.Ythmjbfocpdiikaa
set_option linter.unusedVariables false
namespace PO
/-- id, claim, held, credits -/
abbrev Mem := Int × Int × Int × Int
def m0 : Mem := (0, 0, 0, 0)
def ok (m : Mem) : Bool := PA.right m.2.1 m.2.2.1 m.2.2.2
def need (m : Mem) : Int := PA.need m.2.1 m.2.2.1 m.2.2.2
def may (free : Int) (l : List Mem) : Bool := decide (0 ≤ free) && decide (free ≤ 1048576) && l.all ok
/-- Where p holds first; -1: nowhere. -/
def idx (p : Mem → Bool) (l : List Mem) : Int := match l.findIdx? p with | some i => (i : Int) | none => -1
theorem getD_at {l : List Mem} {k : Nat} (hk : k < l.length) : l.getD k m0 = l[k] := by simp [List.getD, hk]
theorem idx_at {p : Mem → Bool} {l : List Mem} {k : Nat} (hk : k < l.length) (hn : ∀ j, j < k → p (l.getD j m0) = false) (h : p (l.getD k m0) = true) : idx p l = k := by
  unfold idx
  have : l.findIdx? p = some k := by
    rw [List.findIdx?_eq_some_iff_getElem]
    refine ⟨hk, by rw [← getD_at hk]; exact h, fun j hj => ?_⟩
    have := hn j hj
    rw [getD_at (show j < l.length by omega)] at this
    simp [this]
  rw [this]
theorem idx_none {p : Mem → Bool} {l : List Mem} (hn : ∀ j, j < l.length → p (l.getD j m0) = false) : idx p l = -1 := by
  unfold idx
  rw [List.findIdx?_eq_none_iff.2]
  intro m hm
  obtain ⟨j, hj, rfl⟩ := List.mem_iff_getElem.1 hm
  have := hn j hj
  rwa [getD_at hj] at this
theorem idx_ge (p : Mem → Bool) (l : List Mem) : decide (0 ≤ idx p l) = l.any p := by
  unfold idx
  rcases h : l.findIdx? p with _ | i
  · rw [List.findIdx?_eq_none_iff] at h
    have : l.any p = false := by simpa using h
    rw [this]; rfl
  · rw [List.findIdx?_eq_some_iff_getElem] at h
    obtain ⟨hi, hp, _⟩ := h
    have : l.any p = true := List.any_eq_true.2 ⟨_, List.getElem_mem hi, hp⟩
    rw [this]; simp
theorem all_of {l : List Mem} (h : ∀ j, j < l.length → ok (l.getD j m0) = true) : l.all ok = true := by
  rw [List.all_eq_true]
  intro m hm
  obtain ⟨j, hj, rfl⟩ := List.mem_iff_getElem.1 hm
  have := h j hj
  rwa [getD_at hj] at this
theorem all_not {l : List Mem} {k : Nat} (hk : k < l.length) (h : ok (l.getD k m0) = false) : l.all ok = false := by
  rw [getD_at hk] at h
  cases hq : l.all ok
  · rfl
  · rw [List.all_eq_true] at hq
    rw [hq _ (List.getElem_mem hk)] at h
    cases h
theorem any_not (l : List Mem) : l.any (fun m => !ok m) = !(l.all ok) := by simp [List.any_eq_not_all_not]
/-- The first member, not done yet, that may end: from k on. -/
def next (free : Int) (l : List Mem) (done : List Nat) : Option Nat := (List.range l.length).find? (fun i => !done.contains i && decide (need (l.getD i m0) ≤ free))
def taken (l : List Mem) : Nat → Int → List Nat → List Nat
  | 0, _, done => done
  | k + 1, free, done => match next free l done with
    | none => done
    | some i => taken l k (free + (l.getD i m0).2.2.1) (done ++ [i])
def takenAll (free : Int) (l : List Mem) : List Nat := taken l l.length free []
def order (free : Int) (l : List Mem) : List Nat × Bool :=
  if may free l = false then ([], false) else if (takenAll free l).length < l.length then ([], false) else (takenAll free l, true)
def safe (free : Int) (l : List Mem) : Bool := (order free l).2
end PO
end Go.Proofs.Ythmjbfocpdiikaa
