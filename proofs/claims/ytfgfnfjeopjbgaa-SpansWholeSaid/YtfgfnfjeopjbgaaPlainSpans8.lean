/-
  Layer 8 (spans): the holes are added, one by one. Plain Lean.
-/
import Derived.Test.YtfgfnfjeopjbgaaPlainSpans7
namespace Go.Proofs.Ytfgfnfjeopjbgaa.PS
set_option linter.unusedVariables false

theorem fin_le_end {l : List Sp} (hr : right l = true) {k : Nat} (hk : k < l.length) : fin l[k] ≤ endOf l := by
  have e := endOf_pos (l := l) (k := l.length) (by omega) (Nat.le_refl _)
  rw [List.take_length] at e
  rw [e]
  rcases Nat.lt_or_ge k (l.length - 1) with h | h
  · have h1 := right_lt hr h (by omega)
    have hw := (whole_iff _).1 (right_whole hr (k := l.length - 1) (by omega))
    unfold fin at *
    omega
  · obtain rfl : k = l.length - 1 := by omega
    exact Int.le_refl _
/-- The holes up to where the last span ends. -/
theorem holes_end {l : List Sp} (hr : right l = true) (h0 : 0 < l.length) : holes l (endOf l) = holK l (endOf l) l.length := by
  have hw := (whole_iff _).1 (right_whole hr (k := 0) h0)
  have := fin_le_end hr h0
  unfold holes
  rw [if_pos ⟨hr, by unfold fin at this; omega⟩, show piece (endOf l) (endOf l) = [] from if_neg (by omega), List.append_nil]
theorem hol_at {l : List Sp} (hr : right l = true) {k : Nat} (hk : k < l.length) : holK l (endOf l) (k + 1) = holK l (endOf l) k ++ piece (endOf (l.take k)) l[k].1 := by
  have hw := (whole_iff _).1 (right_whole hr hk)
  have := fin_le_end hr hk
  rw [hol_step hk, show min (endOf l) l[k].1 = l[k].1 by unfold fin at this; omega]
theorem hol_prefix {l : List Sp} (hr : right l = true) : ∀ (d k : Nat), k + d ≤ l.length → ∃ r, holK l (endOf l) (k + d) = holK l (endOf l) k ++ r := by
  intro d
  induction d with
  | zero => intro k _; exact ⟨[], by simp⟩
  | succ d ih =>
    intro k hk
    obtain ⟨r, e⟩ := ih k (by omega)
    refine ⟨r ++ piece (endOf (l.take (k + d))) (l[k + d]'(by omega)).1, ?_⟩
    rw [show k + (d + 1) = k + d + 1 by omega, hol_at hr (by omega), e, List.append_assoc]

/-- So many holes are in, and these spans are then there. -/
def St (l : List Sp) (i : Nat) (all : List Sp) : Prop := ∃ k, k ≤ l.length ∧ (holK l (endOf l) k).length = i ∧ all = fill l k ++ l.drop k
theorem st_right {l : List Sp} (hr : right l = true) {k : Nat} (hk : k ≤ l.length) : right (fill l k ++ l.drop k) = true := by
  obtain ⟨f1, f2, -, f4⟩ := fill_spec hr hk
  have e := rightFrom_append (l.take k) 0 (l.drop k)
  rw [List.take_append_drop] at e
  have ht := right_take hr k
  unfold right at hr ht f1 ⊢
  rw [hr, ht, Bool.true_and] at e
  rw [rightFrom_append, f1, Bool.true_and, f2]
  by_cases hf : fill l k = []
  · have := f4 hf
    subst this
    rw [if_pos hf]
    rw [if_pos (by simp)] at e
    exact e.symm
  · rw [if_neg hf]
    by_cases h0 : l.take k = []
    · have hk0 : k = 0 ∨ l = [] := by simpa using h0
      rcases hk0 with rfl | rfl
      · exact absurd rfl hf
      · have : k = 0 := by simpa using hk
        subst this
        exact absurd rfl hf
    · rw [if_neg h0] at e
      exact e.symm
theorem st_skip {l : List Sp} {k : Nat} (hk : k < l.length) (h : ¬ endOf (l.take k) < l[k].1) : fill l (k + 1) ++ l.drop (k + 1) = fill l k ++ l.drop k := by
  rw [fill_step hk, show piece (endOf (l.take k)) l[k].1 = [] from if_neg h, List.nil_append, List.append_assoc, List.drop_eq_getElem_cons hk]
  rfl
theorem st_next {l : List Sp} (hr : right l = true) : ∀ (d k : Nat), k + d = l.length → ∀ i, (holK l (endOf l) k).length = i → ∀ (hi : i < (holK l (endOf l) l.length).length),
    addB (fill l k ++ l.drop k) (holK l (endOf l) l.length)[i] = true ∧ St l (i + 1) (ins (fill l k ++ l.drop k) (holK l (endOf l) l.length)[i]) := by
  intro d
  induction d with
  | zero =>
    intro k hk i he hi
    obtain rfl : k = l.length := by omega
    omega
  | succ d ih =>
    intro k hk i he hi
    have hkl : k < l.length := by omega
    by_cases h : endOf (l.take k) < l[k].1
    · obtain ⟨f1, f2, -, -⟩ := fill_spec hr (k := k) (by omega)
      have eb := endOf_bd (right_take hr k)
      have hw := (whole_iff _).1 (right_whole hr hkl)
      have hp : piece (endOf (l.take k)) l[k].1 = [(endOf (l.take k), l[k].1 - endOf (l.take k))] := if_pos h
      have hh := hol_at hr hkl
      rw [hp] at hh
      obtain ⟨r, er⟩ := hol_prefix hr d (k + 1) (by omega)
      rw [show k + 1 + d = l.length by omega, hh] at er
      have hat : (holK l (endOf l) l.length)[i] = (endOf (l.take k), l[k].1 - endOf (l.take k)) := by
        have e : (holK l (endOf l) l.length)[i]? = some (endOf (l.take k), l[k].1 - endOf (l.take k)) := by
          rw [er, List.append_assoc, List.getElem?_append_right (by omega), he]
          simp
        exact (List.getElem?_eq_some_iff.1 e).2
      rw [hat]
      obtain ⟨E, hE⟩ : ∃ E, endOf (l.take k) = E := ⟨_, rfl⟩
      rw [hE] at h eb f2 hp hh ⊢
      have hwh : whole (E, l[k].1 - E) = true := (whole_iff _).2 ⟨eb.1, by dsimp only; omega, by dsimp only; omega⟩
      have hra := st_right hr (k := k) (by omega)
      have hlow : ∀ j (hj : j < (fill l k).length), fin (fill l k)[j] ≤ E := fun j hj => by
        have := fin_le_end f1 hj
        omega
      have hhigh : ∀ j (hj : j < (l.drop k).length), l[k].1 ≤ (l.drop k)[j].1 := fun j hj => by
        rw [List.getElem_drop]
        exact right_mono hr (by omega) (by simp at hj; omega)
      have hsp : split (fill l k ++ l.drop k) E (fill l k).length := by
        refine ⟨fun j hj hjl => ?_, fun j hj hjl => ?_⟩
        · rw [List.getElem_append_left hj]
          have h1 := hlow j hj
          have h2 := (whole_iff _).1 (right_whole f1 hj)
          unfold fin at h1
          omega
        · rw [List.getElem_append_right hj]
          have := hhigh (j - (fill l k).length) (by simp at hjl ⊢; omega)
          omega
      have hpos : pos (fill l k ++ l.drop k) E = (fill l k).length := split_uniq (pos_le _ _) (by simp) (split_pos hra E) hsp
      have hadd : addB (fill l k ++ l.drop k) (E, l[k].1 - E) = true := addB_iff.2 ⟨hra, hwh, anyMeet_false.2 (fun j hjl => by
        rcases hm : meet (fill l k ++ l.drop k)[j] (E, l[k].1 - E) with _ | _
        · rfl
        · obtain ⟨m1, m2⟩ := (meet_iff (right_whole hra hjl) hwh).1 hm
          rcases Nat.lt_or_ge j (fill l k).length with hj | hj
          · rw [List.getElem_append_left hj] at m2
            have := hlow j hj
            dsimp only at m2
            omega
          · rw [List.getElem_append_right hj] at m1
            have := hhigh (j - (fill l k).length) (by simp at hjl ⊢; omega)
            unfold fin at m1
            dsimp only at m1
            omega)⟩
      refine ⟨hadd, k + 1, by omega, by rw [hh]; simp; omega, ?_⟩
      unfold ins
      dsimp only
      rw [hpos, List.take_left, List.drop_left, fill_step hkl, hE, hp, List.drop_eq_getElem_cons hkl]
      simp
    · have hh := hol_at hr hkl
      rw [show piece (endOf (l.take k)) l[k].1 = [] from if_neg h, List.append_nil] at hh
      have := ih (k + 1) (by omega) i (by rw [hh]; exact he) hi
      rw [st_skip hkl h] at this
      exact this
theorem st_end {l : List Sp} (hr : right l = true) : ∀ (d k : Nat), k + d = l.length → (holK l (endOf l) k).length = (holK l (endOf l) l.length).length → fill l k ++ l.drop k = fill l l.length := by
  intro d
  induction d with
  | zero =>
    intro k hk _
    obtain rfl : k = l.length := by omega
    simp
  | succ d ih =>
    intro k hk he
    have hkl : k < l.length := by omega
    have hh := hol_at hr hkl
    obtain ⟨r, er⟩ := hol_prefix hr d (k + 1) (by omega)
    rw [show k + 1 + d = l.length by omega, hh] at er
    by_cases h : endOf (l.take k) < l[k].1
    · rw [show piece (endOf (l.take k)) l[k].1 = [(endOf (l.take k), l[k].1 - endOf (l.take k))] from if_pos h] at er
      have := congrArg List.length er
      simp at this
      omega
    · rw [show piece (endOf (l.take k)) l[k].1 = [] from if_neg h, List.append_nil] at hh
      rw [← st_skip hkl h]
      exact ih (k + 1) (by omega) (by rw [hh]; exact he)
end Go.Proofs.Ytfgfnfjeopjbgaa.PS
