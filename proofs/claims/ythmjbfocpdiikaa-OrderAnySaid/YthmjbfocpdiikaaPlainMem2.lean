/-
  Plain: who is taken next, and all that are taken.
-/
import Derived.Test.YthmjbfocpdiikaaPlainMem
namespace Go.Proofs.Ythmjbfocpdiikaa
set_option linter.unusedVariables false
namespace PO
def ints (d : List Nat) : List Int := d.map (fun i : Nat => (i : Int))
theorem in_ints {d : List Nat} {i : Nat} : (i : Int) ∈ ints d ↔ i ∈ d := by
  unfold ints
  rw [List.mem_map]
  constructor
  · rintro ⟨j, hj, e⟩
    obtain rfl : j = i := by omega
    exact hj
  · intro h
    exact ⟨i, h, rfl⟩
theorem ints_len (d : List Nat) : (ints d).length = d.length := by simp [ints]
theorem ints_snoc (d : List Nat) (i : Nat) : ints (d ++ [i]) = ints d ++ [(i : Int)] := by simp [ints]
theorem nodup_le : ∀ (n : Nat) (d : List Nat), d.Nodup → (∀ x ∈ d, x < n) → d.length ≤ n
  | 0, d, _, h => by
    cases d with
    | nil => simp
    | cons a t => exact absurd (h a (by simp)) (by omega)
  | n + 1, d, hd, h => by
    by_cases hm : n ∈ d
    · have h1 := nodup_le n (d.erase n) (hd.erase n) (fun x hx => by
        have := (hd.mem_erase_iff).1 hx
        have := h x this.2
        omega)
      rw [List.length_erase_of_mem hm] at h1
      omega
    · have := nodup_le n d hd (fun x hx => by
        have h1 := h x hx
        have h2 : x ≠ n := fun e => hm (e ▸ hx)
        omega)
      omega
theorem next_some {free : Int} {l : List Mem} {done : List Nat} {i : Nat} : next free l done = some i ↔ i < l.length ∧ i ∉ done ∧ need (l.getD i m0) ≤ free ∧ ∀ j, j < i → j ∈ done ∨ free < need (l.getD j m0) := by
  unfold next
  rw [List.find?_range_eq_some]
  simp only [List.mem_range, Bool.and_eq_true, Bool.not_eq_true', decide_eq_true_eq, Bool.not_and, Bool.not_not, Bool.or_eq_true, decide_eq_false_iff_not, List.contains_eq_mem, decide_eq_true_eq]
  constructor
  · rintro ⟨⟨h1, h2⟩, h3, h4⟩
    refine ⟨h3, by simpa using h1, h2, fun j hj => ?_⟩
    rcases h4 j hj with h | h
    · exact .inl (by simpa using h)
    · exact .inr (Int.not_le.1 (by simpa only [decide_eq_false_iff_not, Bool.not_eq_true', decide_eq_false_iff_not] using h))
  · rintro ⟨h3, h1, h2, h4⟩
    refine ⟨⟨by simpa using h1, h2⟩, h3, fun j hj => ?_⟩
    rcases h4 j hj with h | h
    · exact .inl (by simpa using h)
    · exact .inr (by simpa only [decide_eq_false_iff_not, Bool.not_eq_true'] using Int.not_le.2 h)
theorem next_none {free : Int} {l : List Mem} {done : List Nat} (h : ∀ j, j < l.length → j ∈ done ∨ free < need (l.getD j m0)) : next free l done = none := by
  cases hn : next free l done with
  | none => rfl
  | some i =>
    obtain ⟨h1, h2, h3, _⟩ := next_some.1 hn
    rcases h i h1 with h | h
    · exact absurd h h2
    · omega
theorem next_none' {free : Int} {l : List Mem} {done : List Nat} (h : next free l done = none) (j : Nat) (hj : j < l.length) : j ∈ done ∨ free < need (l.getD j m0) := by
  unfold next at h
  rw [List.find?_eq_none] at h
  have := h j (by simpa using hj)
  by_cases hm : j ∈ done
  · exact .inl hm
  · right
    simp only [List.contains_eq_mem, hm, decide_false, Bool.not_false, Bool.true_and, decide_eq_true_eq] at this
    omega
theorem taken_none {l : List Mem} {k : Nat} {free : Int} {done : List Nat} (h : next free l done = none) : taken l k free done = done := by
  cases k with
  | zero => rfl
  | succ k => unfold taken; rw [h]
theorem taken_some {l : List Mem} {k : Nat} {free : Int} {done : List Nat} {i : Nat} (h : next free l done = some i) : taken l (k + 1) free done = taken l k (free + (l.getD i m0).2.2.1) (done ++ [i]) := by
  rw [taken, h]
/-- What holds of those that are taken, and of what is free then. -/
def Good (l : List Mem) (k : Nat) (free : Int) (done : List Nat) : Prop :=
  done.Nodup ∧ (∀ x ∈ done, x < l.length) ∧ done.length + k = l.length ∧ 0 ≤ free ∧ free ≤ 1048576 * ((done.length : Int) + 1)
theorem may_iff {free : Int} {l : List Mem} : may free l = true ↔ 0 ≤ free ∧ free ≤ 1048576 ∧ l.all ok = true := by simp [may, and_assoc]
theorem ok_get {l : List Mem} (h : l.all ok = true) {i : Nat} (hi : i < l.length) : ok (l.getD i m0) = true := by
  rw [getD_at hi]
  exact List.all_eq_true.1 h _ (List.getElem_mem hi)
theorem ok_held {m : Mem} (h : ok m = true) : 0 ≤ m.2.2.1 ∧ m.2.2.1 ≤ 1048576 := by
  have := (PA.right_iff _ _ _).1 h
  omega
theorem good_start {free : Int} {l : List Mem} (h : may free l = true) : Good l l.length free [] := by
  obtain ⟨h0, h1, _⟩ := may_iff.1 h
  exact ⟨List.nodup_nil, fun _ h => by simp at h, by simp, h0, by simpa using h1⟩
/-- One more that is taken: there was room for it. -/
theorem good_next {l : List Mem} {k : Nat} {free : Int} {done : List Nat} {i : Nat} (ha : l.all ok = true) (h : Good l k free done) (hn : next free l done = some i) :
    ∃ k', k = k' + 1 ∧ Good l k' (free + (l.getD i m0).2.2.1) (done ++ [i]) := by
  obtain ⟨h1, h2, h3, h4, h5⟩ := h
  obtain ⟨n1, n2, n3, _⟩ := next_some.1 hn
  have hd : (done ++ [i]).Nodup := by
    rw [List.nodup_append]
    exact ⟨h1, by simp, fun a ha b hb => by simp at hb; rintro rfl; exact n2 (hb ▸ ha)⟩
  have hl : ∀ x ∈ done ++ [i], x < l.length := fun x hx => by
    rcases List.mem_append.1 hx with h | h
    · exact h2 x h
    · simp at h; omega
  have := nodup_le _ _ hd hl
  rw [List.length_append] at this
  have hb := ok_held (ok_get ha n1)
  simp only [List.length_cons, List.length_nil] at this
  refine ⟨k - 1, by omega, hd, hl, by simp; omega, by omega, ?_⟩
  rw [List.length_append]
  simp only [List.length_cons, List.length_nil]
  push_cast
  omega
end PO
end Go.Proofs.Ythmjbfocpdiikaa
