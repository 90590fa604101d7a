/-
  Layer 47 (bound), as numbers: plain arithmetic.
-/
namespace Go.Proofs.Ytfgfnfjeopjbgaa.PBd
set_option linter.unusedVariables false

structure Case where
  ch : Int
  q : Int
  cl : Int
  wi : Int
  ah : Int
def Case.right (c : Case) : Prop := 1 ≤ c.ch ∧ c.ch ≤ 1048576 ∧ 1 ≤ c.q ∧ 1 ≤ c.cl ∧ c.cl ≤ 64 ∧ 1 ≤ c.wi ∧ 0 ≤ c.ah ∧ c.ah ≤ 256
instance (c : Case) : Decidable c.right := by unfold Case.right; infer_instance
def Case.drain (c : Case) : Int := (c.ch + (c.q - 1)) / c.q + 1
def Case.inner (c : Case) : Int := c.wi + (c.ch + 2) * c.drain
def Case.head (c : Case) : Int := (c.cl + 9) * c.inner
def Case.ticket (c : Case) : Int := (c.ah + 1) * c.head
def big : Int := 9223372036854775807
def drainV (c : Case) : Int × Bool := if c.right then (c.drain, true) else (0, false)
def headV (c : Case) : Int × Bool := if c.right ∧ c.head ≤ big then (c.head, true) else (0, false)
def ticketV (c : Case) : Int × Bool := if c.right ∧ c.ticket ≤ big then (c.ticket, true) else (0, false)

theorem ceil_bd {a q : Int} (ha : 1 ≤ a) (hq : 1 ≤ q) : 1 ≤ (a + (q - 1)) / q ∧ (a + (q - 1)) / q ≤ a ∧ a ≤ (a + (q - 1)) / q * q := by
  have h1 : q * 1 ≤ a + (q - 1) := by omega
  have h2 := (Int.le_ediv_iff_mul_le (a := 1) (b := a + (q - 1)) (c := q) (by omega)).2 (by omega)
  have h3 := Int.mul_ediv_add_emod (a + (q - 1)) q
  have h4 := Int.emod_lt_of_pos (a + (q - 1)) (b := q) (by omega)
  have h5 := Int.emod_nonneg (a + (q - 1)) (b := q) (by omega)
  have h6 : (a + (q - 1)) / q * q = q * ((a + (q - 1)) / q) := Int.mul_comm _ _
  refine ⟨h2, ?_, by omega⟩
  have h7 : (a + (q - 1)) / q < a + 1 := by
    refine Int.ediv_lt_of_lt_mul (by omega) ?_
    have : (a + 1) * q = a * q + q := by rw [Int.add_mul]; omega
    rw [this]
    have : a * 1 ≤ a * q := Int.mul_le_mul_of_nonneg_left (by omega) (by omega)
    omega
  omega

theorem ceil_mono {a a' q q' : Int} (ha : 1 ≤ a) (haa : a ≤ a') (hq : 1 ≤ q') (hqq : q' ≤ q) : (a + (q - 1)) / q ≤ (a' + (q' - 1)) / q' := by
  obtain ⟨h1, h2, h3⟩ := ceil_bd (a := a') (q := q') (by omega) hq
  generalize (a' + (q' - 1)) / q' = k at *
  have h4 : k * q' ≤ k * q := Int.mul_le_mul_of_nonneg_left hqq (by omega)
  have h5 : (a + (q - 1)) / q < k + 1 := by
    refine Int.ediv_lt_of_lt_mul (by omega) ?_
    rw [Int.add_mul]
    omega
  omega

variable {c m : Case}
theorem drain_bd (h : c.right) : 2 ≤ c.drain ∧ c.drain ≤ 1048577 := by
  obtain ⟨h1, h2, h3, _⟩ := h
  have := ceil_bd h1 h3
  unfold Case.drain
  omega
theorem mid_bd (h : c.right) : 6 ≤ (c.ch + 2) * c.drain ∧ (c.ch + 2) * c.drain ≤ 1048578 * 1048577 := by
  have hd := drain_bd h
  obtain ⟨h1, h2, h3, _⟩ := h
  constructor
  · have := Int.mul_le_mul (a := 3) (b := 2) (c := c.ch + 2) (d := c.drain) (by omega) hd.1 (by omega) (by omega)
    omega
  · exact Int.mul_le_mul (by omega) hd.2 (by omega) (by omega)
theorem inner_bd (h : c.right) : c.wi < c.inner ∧ 7 ≤ c.inner := by
  have := mid_bd h
  obtain ⟨_, _, _, _, _, h6, _⟩ := h
  unfold Case.inner
  omega
theorem head_ge (h : c.right) : 10 * c.inner ≤ c.head ∧ c.inner < c.head := by
  have hi := inner_bd h
  have := Int.mul_le_mul_of_nonneg_right (a := 10) (b := c.cl + 9) (c := c.inner) (by obtain ⟨_, _, _, h4, _⟩ := h; omega) (by omega)
  unfold Case.head
  omega
theorem ticket_ge (h : c.right) : c.head ≤ c.ticket := by
  have hi := inner_bd h
  have hh := head_ge h
  have := Int.mul_le_mul_of_nonneg_right (a := 1) (b := c.ah + 1) (c := c.head) (by obtain ⟨_, _, _, _, _, _, h7, _⟩ := h; omega) (by omega)
  unfold Case.ticket
  omega

/-- What BoundParts asks. -/
theorem parts_no (h : ¬ (c.right ∧ c.ticket ≤ big)) : ticketV c = (0, false) := by unfold ticketV; rw [if_neg h]
theorem parts (h : c.right ∧ c.ticket ≤ big) : ticketV c = (c.ticket, true) ∧ headV c = (c.head, true) ∧ drainV c = (c.drain, true) ∧ c.ticket = c.head * (c.ah + 1) ∧ c.drain * (c.ch + 2) ≤ c.head ∧ c.wi < c.head ∧ 2 ≤ c.drain := by
  obtain ⟨hr, ht⟩ := h
  have g1 := ticket_ge hr
  have g2 := head_ge hr
  have g3 := inner_bd hr
  have g4 := drain_bd hr
  have g5 := mid_bd hr
  refine ⟨?_, ?_, ?_, ?_, ?_, ?_, g4.1⟩
  · unfold ticketV; rw [if_pos ⟨hr, ht⟩]
  · unfold headV; rw [if_pos ⟨hr, by omega⟩]
  · unfold drainV; rw [if_pos hr]
  · unfold Case.ticket; exact Int.mul_comm _ _
  · have : c.drain * (c.ch + 2) = (c.ch + 2) * c.drain := Int.mul_comm _ _
    have h6 : 1 ≤ c.wi := by obtain ⟨_, _, _, _, _, h6, _⟩ := hr; exact h6
    unfold Case.inner at g2 g3
    omega
  · omega

/-- What BoundMore asks: more, and so no less. -/
theorem more (h : c.right) (hm : m.right) (h1 : c.ch ≤ m.ch) (h2 : m.q ≤ c.q) (h3 : c.cl ≤ m.cl) (h4 : c.wi ≤ m.wi) (h5 : c.ah ≤ m.ah) :
    (drainV m).2 = true ∧ (drainV c).1 ≤ (drainV m).1 ∧ ((headV m).2 = true → (headV c).1 ≤ (headV m).1) ∧ ((ticketV m).2 = true → (ticketV c).1 ≤ (ticketV m).1) := by
  have d : c.drain ≤ m.drain := by
    have := ceil_mono (a := c.ch) (a' := m.ch) (q := c.q) (q' := m.q) h.1 h1 hm.2.2.1 h2
    unfold Case.drain
    omega
  have dc := drain_bd h
  have dm := drain_bd hm
  have i : c.inner ≤ m.inner := by
    have := Int.mul_le_mul (a := c.ch + 2) (b := c.drain) (c := m.ch + 2) (d := m.drain) (by omega) d (by omega) (by have := hm.1; omega)
    unfold Case.inner
    omega
  have ic := inner_bd h
  have im := inner_bd hm
  have k : c.head ≤ m.head := Int.mul_le_mul (by omega) i (by omega) (by have := hm.2.2.2.1; omega)
  have kc := head_ge h
  have km := head_ge hm
  have t : c.ticket ≤ m.ticket := Int.mul_le_mul (by omega) k (by omega) (by have := hm.2.2.2.2.2.2.1; omega)
  have tm := ticket_ge hm
  refine ⟨?_, ?_, ?_, ?_⟩
  · unfold drainV; rw [if_pos hm]
  · unfold drainV; rw [if_pos h, if_pos hm]; exact d
  · unfold headV
    intro hh
    by_cases e : m.right ∧ m.head ≤ big
    · rw [if_pos e]
      split
      · exact k
      · show 0 ≤ m.head
        omega
    · rw [if_neg e] at hh; cases hh
  · unfold ticketV
    intro hh
    by_cases e : m.right ∧ m.ticket ≤ big
    · rw [if_pos e]
      split
      · exact t
      · show 0 ≤ m.ticket
        omega
    · rw [if_neg e] at hh; cases hh
end Go.Proofs.Ytfgfnfjeopjbgaa.PBd
