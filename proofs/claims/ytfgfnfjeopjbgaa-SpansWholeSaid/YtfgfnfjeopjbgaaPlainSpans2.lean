/-
  Layer 8 (spans): which span has a number, how many numbers there are, where there is room. Plain Lean.
-/
import Derived.Test.YtfgfnfjeopjbgaaPlainSpans
namespace Go.Proofs.Ytfgfnfjeopjbgaa.PS
set_option linter.unusedVariables false

def has (x : Int) (s : Sp) : Bool := decide (s.1 ≤ x) && decide (x - s.1 < s.2)
def idx (l : List Sp) (x : Int) : Int := match l.findIdx? (has x) with | some k => k | none => -1
def find (l : List Sp) (x : Int) : Int := if right l = true then idx l x else -1
theorem idx_at {l : List Sp} {x : Int} {k : Nat} (hk : k < l.length) (h : has x l[k] = true) (hn : ∀ j, j < k → ∀ (hj : j < l.length), has x l[j] = false) : idx l x = k := by
  unfold idx
  rw [List.findIdx?_eq_some_iff_getElem.2 ⟨hk, h, fun j hj => by simp [hn j hj (by omega)]⟩]
theorem idx_none {l : List Sp} {x : Int} (hn : ∀ j (hj : j < l.length), has x l[j] = false) : idx l x = -1 := by
  unfold idx
  have : l.findIdx? (has x) = none := by
    rw [List.findIdx?_eq_none_iff]
    intro s hs
    obtain ⟨j, hj, rfl⟩ := List.mem_iff_getElem.1 hs
    simpa using hn j hj
  rw [this]

def sum : List Sp → Int
  | [] => 0
  | s :: l => s.2 + sum l
theorem sum_append (l m : List Sp) : sum (l ++ m) = sum l + sum m := by
  induction l with
  | nil => simp [sum]
  | cons s l ih => simp only [List.cons_append, sum, ih]; omega
theorem sum_step {l : List Sp} {k : Nat} (hk : k < l.length) : sum (l.take (k + 1)) = sum (l.take k) + l[k].2 := by
  rw [take_snoc hk, sum_append]
  simp [sum]
def total (l : List Sp) : Int := if right l = true then sum l else 0
theorem sum_bd : ∀ (k : Nat) {l : List Sp}, k ≤ l.length → right l = true → 0 ≤ sum (l.take k) ∧ sum (l.take k) ≤ endOf (l.take k) := by
  intro k
  induction k with
  | zero => intro l _ _; simp [sum]
  | succ k ih =>
    intro l hk h
    have i := ih (l := l) (by omega) h
    have st := right_step (l := l) (k := k) (by omega)
    rw [right_take h, right_take h] at st
    simp only [Bool.true_and, Bool.true_eq, Bool.and_eq_true, decide_eq_true_eq] at st
    have hw := (whole_iff _).1 st.1
    rw [sum_step (by omega), endOf_step (by omega)]
    unfold fin
    omega

/-- Where the first room of a size begins, from 'at' on. -/
def ga (size : Int) : Int → List Sp → Int
  | at_, [] => at_
  | at_, s :: l => if size ≤ s.1 - at_ then at_ else ga size (fin s) l
def gap (l : List Sp) (size end_ : Int) : Int :=
  if right l = true ∧ 1 ≤ size then (if size ≤ end_ - ga size 0 l ∧ ga size 0 l ≤ end_ then ga size 0 l else -1) else -1
theorem ga_step {l : List Sp} {k : Nat} (hk : k < l.length) (size a : Int) : ga size a (l.drop k) = if size ≤ l[k].1 - a then a else ga size (fin l[k]) (l.drop (k + 1)) := by
  rw [List.drop_eq_getElem_cons hk]
  rfl
theorem ga_end {l : List Sp} {k : Nat} (hk : l.length ≤ k) (size a : Int) : ga size a (l.drop k) = a := by
  rw [List.drop_eq_nil_of_le hk]
  rfl
theorem ga_bd (size : Int) : ∀ (l : List Sp) (a : Int), rightFrom a l = true → 0 ≤ a → a ≤ 9223372036854775807 → 0 ≤ ga size a l ∧ ga size a l ≤ 9223372036854775807 := by
  intro l
  induction l with
  | nil => intro a _ h0 h1; exact ⟨h0, h1⟩
  | cons s l ih =>
    intro a h h0 h1
    simp only [rightFrom, Bool.and_eq_true, decide_eq_true_eq] at h
    have hw := (whole_iff _).1 h.1.1
    unfold ga
    split
    · exact ⟨h0, h1⟩
    · exact ih _ h.2 (by unfold fin; omega) (by unfold fin; omega)

/-- Each span begins where the one ahead has ended, or beyond. -/
theorem right_next {l : List Sp} (h : right l = true) {k : Nat} (hk : k + 1 < l.length) : fin (l[k]'(by omega)) ≤ l[k + 1].1 := by
  have st := right_step (l := l) (k := k + 1) hk
  rw [right_take h, right_take h, endOf_step (by omega)] at st
  simp only [Bool.true_and, Bool.true_eq, Bool.and_eq_true, decide_eq_true_eq] at st
  exact st.2
theorem right_far {l : List Sp} (h : right l = true) : ∀ (d k : Nat) (hk : k + 1 + d < l.length), fin (l[k]'(by omega)) ≤ (l[k + 1 + d]'hk).1 := by
  intro d
  induction d with
  | zero => intro k hk; exact right_next h hk
  | succ d ih =>
    intro k hk
    have h1 := ih k (by omega)
    have h2 := right_next h (k := k + 1 + d) (by omega)
    have hw := (whole_iff _).1 (right_whole h (k := k + 1 + d) (by omega))
    unfold fin at *
    have e : (l[k + 1 + (d + 1)]'hk).1 = (l[k + 1 + d + 1]'(by omega)).1 := rfl
    omega
theorem right_lt {l : List Sp} (h : right l = true) {a b : Nat} (hab : a < b) (hb : b < l.length) : fin (l[a]'(by omega)) ≤ l[b].1 := by
  obtain ⟨d, rfl⟩ : ∃ d, b = a + 1 + d := ⟨b - (a + 1), by omega⟩
  exact right_far h d a hb
theorem right_mono {l : List Sp} (h : right l = true) {a b : Nat} (hab : a ≤ b) (hb : b < l.length) : (l[a]'(by omega)).1 ≤ l[b].1 := by
  rcases Nat.lt_or_ge a b with hlt | hge
  · have := right_lt h hlt hb
    have hw := (whole_iff _).1 (right_whole h (k := a) (by omega))
    unfold fin at this
    omega
  · obtain rfl : a = b := by omega
    exact Int.le_refl _

/-- Where a span that begins at x comes. -/
def split (l : List Sp) (x : Int) (i : Nat) : Prop := (∀ k, k < i → ∀ (hk : k < l.length), l[k].1 < x) ∧ (∀ k, i ≤ k → ∀ (hk : k < l.length), x ≤ l[k].1)
theorem split_uniq {l : List Sp} {x : Int} {i j : Nat} (hi : i ≤ l.length) (hj : j ≤ l.length) (h : split l x i) (h' : split l x j) : i = j := by
  rcases Nat.lt_trichotomy i j with hlt | rfl | hlt
  · have h1 := h.2 i (Nat.le_refl _) (by omega)
    have h2 := h'.1 i hlt (by omega)
    omega
  · rfl
  · have h1 := h'.2 j (Nat.le_refl _) (by omega)
    have h2 := h.1 j hlt (by omega)
    omega
end Go.Proofs.Ytfgfnfjeopjbgaa.PS
