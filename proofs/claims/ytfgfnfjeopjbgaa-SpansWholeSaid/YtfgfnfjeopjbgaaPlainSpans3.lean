/-
  Layer 8 (spans): with one more, and without one. Plain Lean.
-/
import Derived.Test.YtfgfnfjeopjbgaaPlainSpans2
namespace Go.Proofs.Ytfgfnfjeopjbgaa.PS
set_option linter.unusedVariables false

def pos (l : List Sp) (x : Int) : Nat := (l.takeWhile fun p => decide (p.1 < x)).length
theorem pos_le (l : List Sp) (x : Int) : pos l x ≤ l.length := List.takeWhile_prefix _ |>.length_le
theorem takeWhile_lt {l : List Sp} {x : Int} : ∀ {k : Nat}, k < pos l x → ∀ (hk : k < l.length), l[k].1 < x := by
  unfold pos
  induction l with
  | nil => intro k _ hk; simp at hk
  | cons p l ih =>
    intro k h hk
    by_cases hp : p.1 < x
    · rw [List.takeWhile_cons_of_pos (by simpa using hp)] at h
      cases k with
      | zero => exact hp
      | succ k => exact ih (by simpa using h) (by simpa using hk)
    · rw [List.takeWhile_cons_of_neg (by simpa using hp)] at h
      simp at h
theorem takeWhile_ge {l : List Sp} {x : Int} : ∀ (hk : pos l x < l.length), x ≤ l[pos l x].1 := by
  unfold pos
  induction l with
  | nil => intro hk; simp at hk
  | cons p l ih =>
    intro hk
    by_cases hp : p.1 < x
    · have e : (List.takeWhile (fun p => decide (p.1 < x)) (p :: l)).length = (List.takeWhile (fun p => decide (p.1 < x)) l).length + 1 := by
        rw [List.takeWhile_cons_of_pos (by simpa using hp)]; rfl
      have := ih (by rw [e] at hk; simpa using hk)
      simp only [e, List.getElem_cons_succ]
      exact this
    · have e : (List.takeWhile (fun p => decide (p.1 < x)) (p :: l)).length = 0 := by
        rw [List.takeWhile_cons_of_neg (by simpa using hp)]; rfl
      simp only [e, List.getElem_cons_zero]
      omega
theorem split_pos {l : List Sp} (h : right l = true) (x : Int) : split l x (pos l x) := by
  refine ⟨fun k hk hkl => takeWhile_lt hk hkl, fun k hk hkl => ?_⟩
  have h1 := takeWhile_ge (l := l) (x := x) (by omega)
  have h2 := right_mono h hk hkl
  omega

theorem meet_iff {a b : Sp} (ha : whole a = true) (hb : whole b = true) : meet a b = true ↔ a.1 < fin b ∧ b.1 < fin a := by
  unfold meet; simp [ha, hb]
/-- Some span of l has a number in common with s: just the ones at the place are to be asked. -/
theorem clash {l : List Sp} {s : Sp} {i : Nat} (h : right l = true) (hs : whole s = true) (hi : i ≤ l.length) (hsp : split l s.1 i)
    (h1 : ∀ (hk : i < l.length), meet l[i] s = false) (h2 : ∀ (hk : i - 1 < l.length), 0 < i → meet (l[i - 1]'hk) s = false) : ∀ k (hk : k < l.length), meet l[k] s = false := by
  intro k hk
  have hw := right_whole h hk
  rcases hm : meet l[k] s with _ | _
  · rfl
  · exfalso
    obtain ⟨m1, m2⟩ := (meet_iff hw hs).1 hm
    have ws := (whole_iff s).1 hs
    rcases Nat.lt_trichotomy k i with hlt | rfl | hgt
    · have h3 := hsp.1 k hlt hk
      have hk' : i - 1 < l.length := by omega
      have h4 := hsp.1 (i - 1) (by omega) hk'
      rcases Nat.lt_or_ge k (i - 1) with h5 | h5
      · have h6 := right_lt h h5 hk'
        omega
      · obtain rfl : k = i - 1 := by omega
        rw [h2 hk' (by omega)] at hm
        cases hm
    · rw [h1 hk] at hm; cases hm
    · have hil : i < l.length := by omega
      have h3 := hsp.2 i (Nat.le_refl _) hil
      have h4 := right_lt h hgt hk
      have h5 := h1 hil
      have wi := right_whole h hil
      have w2 := (whole_iff _).1 wi
      have : meet l[i] s = true := (meet_iff wi hs).2 ⟨by unfold fin at *; omega, by unfold fin at *; omega⟩
      rw [h5] at this
      cases this
/-- Where none meets, none begins at the same place. -/
theorem noeq {l : List Sp} {s : Sp} (h : right l = true) (hs : whole s = true) {k : Nat} (hk : k < l.length) (hm : meet l[k] s = false) : l[k].1 ≠ s.1 := by
  intro e
  have hw := right_whole h hk
  have w1 := (whole_iff _).1 hw
  have w2 := (whole_iff _).1 hs
  have : meet l[k] s = true := (meet_iff hw hs).2 ⟨by unfold fin; omega, by unfold fin; omega⟩
  rw [hm] at this
  cases this

def ins (l : List Sp) (s : Sp) : List Sp := l.take (pos l s.1) ++ s :: l.drop (pos l s.1)
def anyMeet (l : List Sp) (s : Sp) : Bool := l.any fun p => meet p s
theorem anyMeet_false {l : List Sp} {s : Sp} : anyMeet l s = false ↔ ∀ k (hk : k < l.length), meet l[k] s = false := by
  unfold anyMeet
  rw [List.any_eq_false]
  constructor
  · intro h k hk
    have := h l[k] (List.getElem_mem _)
    simpa using this
  · intro h p hp
    obtain ⟨k, hk, rfl⟩ := List.mem_iff_getElem.1 hp
    simp [h k hk]
theorem anyMeet_true {l : List Sp} {s : Sp} {k : Nat} (hk : k < l.length) (h : meet l[k] s = true) : anyMeet l s = true :=
  List.any_eq_true.2 ⟨l[k], List.getElem_mem _, h⟩
def addB (l : List Sp) (s : Sp) : Bool := right l && whole s && !anyMeet l s
def addL (l : List Sp) (s : Sp) : List Sp := if addB l s = true then ins l s else []

/-- What the reference has put together behind k rounds. -/
def insK (l : List Sp) (s : Sp) (k : Nat) : List Sp := if k ≤ pos l s.1 then l.take k else l.take (pos l s.1) ++ s :: (l.take k).drop (pos l s.1)
theorem insK_0 (l : List Sp) (s : Sp) : insK l s 0 = [] := by unfold insK; rw [if_pos (Nat.zero_le _)]; rfl
theorem insK_lt {l : List Sp} {s : Sp} {k : Nat} (hk : k < l.length) (h : k < pos l s.1) : insK l s (k + 1) = insK l s k ++ [l[k]] := by
  unfold insK
  rw [if_pos (by omega), if_pos (by omega), take_snoc hk]
theorem insK_eq {l : List Sp} {s : Sp} {k : Nat} (hk : k < l.length) (h : k = pos l s.1) : insK l s (k + 1) = insK l s k ++ [s] ++ [l[k]] := by
  unfold insK
  rw [if_neg (by omega), if_pos (by omega), take_snoc hk, ← h]
  have : ((l.take k ++ [l[k]]).drop k) = [l[k]] := by
    rw [List.drop_append_of_le_length (by simp; omega), List.drop_of_length_le (by simp; omega)]
    rfl
  rw [this]
  simp
theorem insK_gt {l : List Sp} {s : Sp} {k : Nat} (hk : k < l.length) (h : pos l s.1 < k) : insK l s (k + 1) = insK l s k ++ [l[k]] := by
  unfold insK
  rw [if_neg (by omega), if_neg (by omega), take_snoc hk, List.drop_append_of_le_length (by simp; omega)]
  simp
theorem insK_end {l : List Sp} {s : Sp} : (if pos l s.1 < l.length then insK l s l.length else insK l s l.length ++ [s]) = ins l s := by
  have := pos_le l s.1
  unfold insK ins
  split
  · rw [if_neg (by omega), List.take_length]
  · have e : pos l s.1 = l.length := by omega
    rw [if_pos (by omega), e, List.take_length, List.drop_length]
theorem insK_len (l : List Sp) (s : Sp) (k : Nat) (hk : k ≤ l.length) : (insK l s k).length ≤ k + 1 := by
  unfold insK
  split
  · simp; omega
  · simp; omega

def hasAt (l : List Sp) (x : Int) : Bool := l.any fun p => decide (p.1 = x)
def delL (l : List Sp) (x : Int) : List Sp := l.take (pos l x) ++ l.drop (pos l x + 1)
def dropB (l : List Sp) (x : Int) : Bool := right l && hasAt l x
def dropL (l : List Sp) (x : Int) : List Sp := if dropB l x = true then delL l x else []
theorem hasAt_iff {l : List Sp} {x : Int} (h : right l = true) : hasAt l x = true ↔ ∃ h : pos l x < l.length, l[pos l x].1 = x := by
  unfold hasAt
  rw [List.any_eq_true]
  constructor
  · rintro ⟨p, hp, he⟩
    obtain ⟨k, hk, rfl⟩ := List.mem_iff_getElem.1 hp
    have he' : l[k].1 = x := by simpa using he
    have h1 := split_pos h x
    rcases Nat.lt_trichotomy k (pos l x) with hlt | rfl | hgt
    · have := h1.1 k hlt hk; omega
    · exact ⟨hk, he'⟩
    · have h2 := h1.2 (pos l x) (Nat.le_refl _) (by omega)
      have h3 := right_lt h hgt hk
      have w := (whole_iff _).1 (right_whole h (k := pos l x) (by omega))
      unfold fin at h3
      omega
  · rintro ⟨hk, he⟩
    exact ⟨_, List.getElem_mem hk, by simpa using he⟩
theorem hasAt_step {l : List Sp} {x : Int} {k : Nat} (hk : k < l.length) : hasAt (l.take (k + 1)) x = (hasAt (l.take k) x || decide (l[k].1 = x)) := by
  unfold hasAt
  rw [take_snoc hk, List.any_append]
  simp
def fil (l : List Sp) (x : Int) : List Sp := l.filter fun p => !decide (p.1 = x)
theorem fil_step {l : List Sp} {x : Int} {k : Nat} (hk : k < l.length) : fil (l.take (k + 1)) x = if l[k].1 = x then fil (l.take k) x else fil (l.take k) x ++ [l[k]] := by
  unfold fil
  rw [take_snoc hk, List.filter_append]
  by_cases h : l[k].1 = x <;> simp [h]
theorem fil_len (l : List Sp) (x : Int) : (fil l x).length ≤ l.length := List.length_filter_le _ _
theorem fil_all {l : List Sp} {x : Int} (h : ∀ k (hk : k < l.length), l[k].1 ≠ x) : fil l x = l := by
  unfold fil
  rw [List.filter_eq_self]
  intro p hp
  obtain ⟨k, hk, rfl⟩ := List.mem_iff_getElem.1 hp
  simp [h k hk]
theorem fil_end {l : List Sp} {x : Int} (h : right l = true) (hx : hasAt l x = true) : fil l x = delL l x := by
  obtain ⟨hp, he⟩ := (hasAt_iff h).1 hx
  have h1 := split_pos h x
  have e : l = l.take (pos l x) ++ l[pos l x] :: l.drop (pos l x + 1) := by
    rw [← List.drop_eq_getElem_cons hp, List.take_append_drop]
  have f1 : fil (l.take (pos l x)) x = l.take (pos l x) := fil_all (fun k hk => by
    have hk' : k < pos l x ∧ k < l.length := by rw [List.length_take] at hk; omega
    rw [List.getElem_take]
    have := h1.1 k hk'.1 hk'.2
    omega)
  have f2 : fil (l.drop (pos l x + 1)) x = l.drop (pos l x + 1) := fil_all (fun k hk => by
    have hk' : pos l x + 1 + k < l.length := by have : k < l.length - (pos l x + 1) := by simpa using hk
                                                omega
    rw [List.getElem_drop]
    have h3 := right_lt h (a := pos l x) (b := pos l x + 1 + k) (by omega) hk'
    have w := (whole_iff _).1 (right_whole h hp)
    unfold fin at h3
    omega)
  unfold delL
  have f3 : fil l x = fil (l.take (pos l x)) x ++ fil (l[pos l x] :: l.drop (pos l x + 1)) x := by
    unfold fil
    rw [← List.filter_append, ← e]
  rw [f3, f1]
  congr 1
  unfold fil at *
  rw [List.filter_cons_of_neg (by simp [he])]
  exact f2
end Go.Proofs.Ytfgfnfjeopjbgaa.PS
