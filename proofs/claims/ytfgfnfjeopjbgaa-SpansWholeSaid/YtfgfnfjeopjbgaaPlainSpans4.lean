/-
  Layer 8 (spans): what Add gives is in order, and the rest of 8.5. Plain Lean.
-/
import Derived.Test.YtfgfnfjeopjbgaaPlainSpans3
namespace Go.Proofs.Ytfgfnfjeopjbgaa.PS
set_option linter.unusedVariables false

theorem rightFrom_from {a b : Int} {l : List Sp} (h : rightFrom a l = true) (hb : ∀ (h0 : 0 < l.length), b ≤ l[0].1) : rightFrom b l = true := by
  cases l with
  | nil => rfl
  | cons p l =>
    simp only [rightFrom, Bool.and_eq_true, decide_eq_true_eq] at h ⊢
    exact ⟨⟨h.1.1, hb (by simp)⟩, h.2⟩
theorem addB_iff {l : List Sp} {s : Sp} : addB l s = true ↔ right l = true ∧ whole s = true ∧ anyMeet l s = false := by
  unfold addB
  simp [and_assoc]
/-- What lies ahead of the place ends there. -/
theorem ahead {l : List Sp} {s : Sp} (h : addB l s = true) {k : Nat} (hk : k < pos l s.1) (hkl : k < l.length) : fin l[k] ≤ s.1 := by
  obtain ⟨h1, h2, h3⟩ := addB_iff.1 h
  have hm := anyMeet_false.1 h3 k hkl
  have hlt := (split_pos h1 s.1).1 k hk hkl
  have hw := right_whole h1 hkl
  have w2 := (whole_iff _).1 h2
  rcases Int.lt_or_le s.1 (fin l[k]) with h4 | h4
  · have : meet l[k] s = true := (meet_iff hw h2).2 ⟨by unfold fin; omega, h4⟩
    rw [hm] at this; cases this
  · exact h4
/-- What lies behind the place begins where the new one has ended. -/
theorem behind {l : List Sp} {s : Sp} (h : addB l s = true) {k : Nat} (hk : pos l s.1 ≤ k) (hkl : k < l.length) : fin s ≤ l[k].1 := by
  obtain ⟨h1, h2, h3⟩ := addB_iff.1 h
  have hm := anyMeet_false.1 h3 k hkl
  have hlt := (split_pos h1 s.1).2 k hk hkl
  have hw := right_whole h1 hkl
  have w1 := (whole_iff _).1 hw
  rcases Int.lt_or_le l[k].1 (fin s) with h4 | h4
  · have : meet l[k] s = true := (meet_iff hw h2).2 ⟨h4, by unfold fin; omega⟩
    rw [hm] at this; cases this
  · exact h4
theorem right_ins {l : List Sp} {s : Sp} (h : addB l s = true) : right (ins l s) = true := by
  obtain ⟨h1, h2, h3⟩ := addB_iff.1 h
  have w2 := (whole_iff _).1 h2
  have hp := pos_le l s.1
  unfold right ins
  rw [rightFrom_append]
  have ht := right_take h1 (pos l s.1)
  unfold right at ht
  rw [ht, Bool.true_and]
  simp only [rightFrom, Bool.and_eq_true, decide_eq_true_eq]
  refine ⟨⟨h2, ?_⟩, ?_⟩
  · split
    · omega
    · rename_i hne
      have h0 : 0 < pos l s.1 := by
        rcases Nat.eq_zero_or_pos (pos l s.1) with e | e
        · rw [e] at hne; exact absurd rfl hne
        · exact e
      rw [endOf_pos h0 hp]
      exact ahead h (by omega) (by omega)
  · have hd : ∃ a, rightFrom a (l.drop (pos l s.1)) = true := by
      have := rightFrom_append (l.take (pos l s.1)) 0 (l.drop (pos l s.1))
      rw [List.take_append_drop] at this
      unfold right at h1
      rw [h1, ht, Bool.true_and] at this
      exact ⟨_, this.symm⟩
    obtain ⟨a, ha⟩ := hd
    refine rightFrom_from ha (fun h0 => ?_)
    rw [List.getElem_drop]
    exact behind h (by omega) _
theorem ins_len {l : List Sp} {s : Sp} : (ins l s).length = l.length + 1 := by
  have hp := pos_le l s.1
  unfold ins
  simp
  omega
theorem ins_at {l : List Sp} {s : Sp} (hk : pos l s.1 < (ins l s).length) : (ins l s)[pos l s.1] = s := by
  have hp := pos_le l s.1
  have e : (ins l s)[pos l s.1]? = some s := by
    unfold ins
    rw [List.getElem?_append_right (by simp; omega)]
    simp [Nat.min_eq_left hp]
  exact (List.getElem?_eq_some_iff.1 e).2
theorem ins_lt {l : List Sp} {s : Sp} {k : Nat} (h : k < pos l s.1) (hk : k < (ins l s).length) (hkl : k < l.length) : (ins l s)[k] = l[k] := by
  have hp := pos_le l s.1
  have e : (ins l s)[k]? = some l[k] := by
    unfold ins
    rw [List.getElem?_append_left (by simp; omega), List.getElem?_take, if_pos h, List.getElem?_eq_getElem hkl]
  exact (List.getElem?_eq_some_iff.1 e).2
theorem ins_gt {l : List Sp} {s : Sp} {k : Nat} (h : pos l s.1 ≤ k) (hk : k + 1 < (ins l s).length) (hkl : k < l.length) : (ins l s)[k + 1] = l[k] := by
  have hp := pos_le l s.1
  have e : (ins l s)[k + 1]? = some l[k] := by
    unfold ins
    rw [List.getElem?_append_right (by simp; omega)]
    have e : k + 1 - (l.take (pos l s.1)).length = (k - pos l s.1) + 1 := by simp; omega
    rw [e, List.getElem?_cons_succ, List.getElem?_drop, show pos l s.1 + (k - pos l s.1) = k by omega, List.getElem?_eq_getElem hkl]
  exact (List.getElem?_eq_some_iff.1 e).2
theorem pos_ins {l : List Sp} {s : Sp} (h : addB l s = true) : pos (ins l s) s.1 = pos l s.1 := by
  have hr := right_ins h
  have h1 := (addB_iff.1 h).1
  have hp := pos_le l s.1
  refine split_uniq (pos_le _ _) (by rw [ins_len]; omega) (split_pos hr s.1) ⟨fun k hk hkl => ?_, fun k hk hkl => ?_⟩
  · rw [ins_lt hk hkl (by omega)]
    exact (split_pos h1 s.1).1 k hk (by omega)
  · rcases Nat.lt_or_ge (pos l s.1) k with h2 | h2
    · obtain ⟨j, rfl⟩ : ∃ j, k = j + 1 := ⟨k - 1, by omega⟩
      rw [ins_len] at hkl
      rw [ins_gt (by omega) (by rw [ins_len]; omega) (by omega)]
      exact (split_pos h1 s.1).2 j (by omega) (by omega)
    · obtain rfl : k = pos l s.1 := by omega
      rw [ins_at hkl]
      exact Int.le_refl _
theorem has_ins {l : List Sp} {s : Sp} (h : addB l s = true) : hasAt (ins l s) s.1 = true := by
  refine (hasAt_iff (right_ins h)).2 ⟨by rw [pos_ins h, ins_len]; have := pos_le l s.1; omega, ?_⟩
  simp only [pos_ins h]
  rw [ins_at]
theorem del_ins {l : List Sp} {s : Sp} (h : addB l s = true) : dropL (ins l s) s.1 = l ∧ dropB (ins l s) s.1 = true := by
  have hb : dropB (ins l s) s.1 = true := by unfold dropB; rw [right_ins h, has_ins h]; rfl
  refine ⟨?_, hb⟩
  have hp := pos_le l s.1
  unfold dropL delL
  rw [if_pos hb, pos_ins h]
  have e1 : (ins l s).take (pos l s.1) = l.take (pos l s.1) := by
    unfold ins
    rw [List.take_append_of_le_length (by simp; omega), List.take_take, Nat.min_self]
  have e2 : (ins l s).drop (pos l s.1 + 1) = l.drop (pos l s.1) := by
    unfold ins
    rw [List.drop_append, List.drop_of_length_le (by simp; omega)]
    have : pos l s.1 + 1 - (l.take (pos l s.1)).length = 1 := by simp; omega
    rw [this]
    rfl
  rw [e1, e2, List.take_append_drop]
theorem find_ins {l : List Sp} {s : Sp} (h : addB l s = true) : find (ins l s) s.1 = pos l s.1 := by
  have h2 := (whole_iff _).1 (addB_iff.1 h).2.1
  have hp := pos_le l s.1
  unfold find
  rw [if_pos (right_ins h)]
  refine idx_at (by rw [ins_len]; omega) (by rw [ins_at]; unfold has; simp; omega) (fun j hj hjl => ?_)
  rw [ins_lt hj hjl (by omega)]
  have := ahead h hj (by omega)
  unfold fin at this
  unfold has
  simp
  omega

theorem ga_free (size : Int) (hs : 1 ≤ size) : ∀ (l : List Sp) (a : Int), rightFrom a l = true → a ≤ ga size a l ∧ ∀ p ∈ l, fin p ≤ ga size a l ∨ ga size a l + size ≤ p.1 := by
  intro l
  induction l with
  | nil => intro a _; exact ⟨Int.le_refl _, fun p hp => by simp at hp⟩
  | cons s l ih =>
    intro a h
    simp only [rightFrom, Bool.and_eq_true, decide_eq_true_eq] at h
    have hw := (whole_iff _).1 h.1.1
    unfold ga
    split
    · rename_i hsz
      refine ⟨Int.le_refl _, fun p hp => .inr ?_⟩
      have hr : right (s :: l) = true := by
        unfold right
        exact rightFrom_from (a := a) (by simp only [rightFrom, Bool.and_eq_true, decide_eq_true_eq]; exact h) (fun _ => hw.1)
      obtain ⟨k, hk, rfl⟩ := List.mem_iff_getElem.1 hp
      have := right_mono hr (a := 0) (b := k) (Nat.zero_le _) hk
      simp only [List.getElem_cons_zero] at this
      omega
    · obtain ⟨i1, i2⟩ := ih (fin s) h.2
      refine ⟨by unfold fin at *; omega, fun p hp => ?_⟩
      rcases List.mem_cons.1 hp with rfl | hp
      · exact .inl i1
      · exact i2 p hp
theorem gap_add {l : List Sp} {size e : Int} (h : 0 ≤ gap l size e) (he : e ≤ 9223372036854775807) : addB l (gap l size e, size) = true ∧ size ≤ e - gap l size e ∧ gap l size e ≤ e ∧ 1 ≤ size := by
  unfold gap at h ⊢
  by_cases h1 : right l = true ∧ 1 ≤ size
  · rw [if_pos h1] at h ⊢
    by_cases h2 : size ≤ e - ga size 0 l ∧ ga size 0 l ≤ e
    · rw [if_pos h2] at h ⊢
      obtain ⟨f1, f2⟩ := ga_free size h1.2 l 0 h1.1
      have hw : whole (ga size 0 l, size) = true := (whole_iff _).2 ⟨f1, h1.2, by dsimp only; omega⟩
      refine ⟨addB_iff.2 ⟨h1.1, hw, anyMeet_false.2 (fun k hk => ?_)⟩, h2.1, h2.2, h1.2⟩
      rcases hm : meet l[k] (ga size 0 l, size) with _ | _
      · rfl
      · obtain ⟨m1, m2⟩ := (meet_iff (right_whole h1.1 hk) hw).1 hm
        rcases f2 _ (List.getElem_mem hk) with h3 | h3
        · dsimp only at m2; omega
        · unfold fin at m1; dsimp only at m1; omega
    · rw [if_neg h2] at h; omega
  · rw [if_neg h1] at h; omega
end Go.Proofs.Ytfgfnfjeopjbgaa.PS
