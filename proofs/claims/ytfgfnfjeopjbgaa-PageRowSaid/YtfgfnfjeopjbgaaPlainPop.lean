/-
  How many bits of a number are set: the way by halves of words tells just that; plain arithmetic.
-/
import Derived.KernelRfl
namespace Go.Proofs.Ytfgfnfjeopjbgaa.PN

def pop (n : Nat) : Nat := if h : n = 0 then 0 else n % 2 + pop (n / 2)
termination_by n
decreasing_by omega

theorem pop_zero : pop 0 = 0 := by unfold pop; simp
theorem pop_step (n : Nat) : pop n = n % 2 + pop (n / 2) := by
  by_cases h : n = 0
  · subst h; simp [pop_zero]
  · conv => lhs; unfold pop
    simp [h]
theorem pop_pos (n : Nat) (h : 0 < n) : 0 < pop n := by
  induction n using Nat.strongRecOn with
  | ind n ih =>
    rw [pop_step]
    by_cases h2 : n % 2 = 0
    · have := ih (n / 2) (by omega) (by omega)
      omega
    · omega
theorem pop_one : pop 1 = 1 := by rw [pop_step]; simp [pop_zero]
theorem pop_even (n : Nat) (h : n % 2 = 0) : pop n = pop (n / 2) := by rw [pop_step, h]; simp
theorem pop_odd (n : Nat) (h : n % 2 = 1) (h1 : 1 < n) : 2 ≤ pop n := by
  rw [pop_step, h]
  have := pop_pos (n / 2) (by omega)
  omega
theorem pop_add (k : Nat) : ∀ b y : Nat, b < 2 ^ k → pop (b + 2 ^ k * y) = pop b + pop y := by
  induction k with
  | zero => intro b y h; obtain rfl : b = 0 := by simpa using h
            simp [pop_zero]
  | succ k ih =>
    intro b y h
    have e2 : 2 ^ (k + 1) * y = 2 * (2 ^ k * y) := by rw [Nat.pow_succ]; ac_rfl
    have h' : b < 2 * 2 ^ k := by rw [Nat.pow_succ] at h; omega
    rw [pop_step, pop_step b]
    have e3 : (b + 2 ^ (k + 1) * y) % 2 = b % 2 := by rw [e2]; omega
    have e4 : (b + 2 ^ (k + 1) * y) / 2 = b / 2 + 2 ^ k * y := by rw [e2]; omega
    rw [e3, e4, ih (b / 2) y (by omega)]
    omega

def val : List Nat → Nat
  | [] => 0
  | b :: l => b + 256 * val l

theorem and_byte (b y m M : Nat) (hb : b < 256) (hm : m < 256) : (b + 256 * y) &&& (m + 256 * M) = (b &&& m) + 256 * (y &&& M) := by
  have hbm : b &&& m < 2 ^ 8 := Nat.lt_of_le_of_lt Nat.and_le_left hb
  apply Nat.eq_of_testBit_eq
  intro i
  rw [Nat.testBit_and, Nat.add_comm b, Nat.add_comm m, Nat.add_comm (b &&& m), show (256 : Nat) = 2 ^ 8 from rfl,
    Nat.testBit_two_pow_mul_add y hb, Nat.testBit_two_pow_mul_add M hm, Nat.testBit_two_pow_mul_add (y &&& M) hbm]
  split <;> simp [Nat.testBit_and]

theorem shr_and_byte (s b y m M : Nat) (hs : s ≤ 8) (hb : b < 256) (hm : m < 2 ^ (8 - s)) :
    ((b + 256 * y) / 2 ^ s) &&& (m + 256 * M) = ((b / 2 ^ s) &&& m) + 256 * ((y / 2 ^ s) &&& M) := by
  have hle : 2 ^ (8 - s) ≤ 2 ^ 8 := Nat.pow_le_pow_right (by omega) (by omega)
  have hm' : m < 2 ^ 8 := by omega
  have hbs : b / 2 ^ s < 2 ^ 8 := Nat.lt_of_le_of_lt (Nat.div_le_self _ _) hb
  have hbm : (b / 2 ^ s) &&& m < 2 ^ 8 := Nat.lt_of_le_of_lt Nat.and_le_left hbs
  apply Nat.eq_of_testBit_eq
  intro i
  rw [Nat.testBit_and, Nat.testBit_div_two_pow, Nat.add_comm b, Nat.add_comm m, Nat.add_comm ((b / 2 ^ s) &&& m), show (256 : Nat) = 2 ^ 8 from rfl,
    Nat.testBit_two_pow_mul_add y hb, Nat.testBit_two_pow_mul_add M hm', Nat.testBit_two_pow_mul_add _ hbm]
  by_cases h8 : i < 8
  · simp only [h8, if_true]
    by_cases h : i + s < 8
    · rw [if_pos h]; simp [Nat.testBit_and, Nat.testBit_div_two_pow]
    · rw [if_neg h]
      have : m.testBit i = false := Nat.testBit_lt_two_pow (Nat.lt_of_lt_of_le hm (Nat.pow_le_pow_right (by omega) (by omega)))
      simp [Nat.testBit_and, this]
  · simp only [h8, if_false]
    rw [if_neg (by omega), Nat.testBit_and, Nat.testBit_div_two_pow]
    congr 2
    omega

theorem and_val (m : Nat) (hm : m < 256) : ∀ l : List Nat, (∀ b ∈ l, b < 256) → val l &&& val (List.replicate l.length m) = val (l.map (· &&& m))
  | [], _ => by simp [val]
  | b :: l, h => by
    show (b + 256 * val l) &&& (m + 256 * val (List.replicate l.length m)) = _
    rw [and_byte _ _ _ _ (h b (by simp)) hm, and_val m hm l (fun x hx => h x (by simp [hx]))]
    rfl
theorem shr_and_val (s m : Nat) (hs : s ≤ 8) (hm : m < 2 ^ (8 - s)) : ∀ l : List Nat, (∀ b ∈ l, b < 256) → (val l / 2 ^ s) &&& val (List.replicate l.length m) = val (l.map (fun b => (b / 2 ^ s) &&& m))
  | [], _ => by simp [val]
  | b :: l, h => by
    show ((b + 256 * val l) / 2 ^ s) &&& (m + 256 * val (List.replicate l.length m)) = _
    rw [shr_and_byte s _ _ _ _ hs (h b (by simp)) hm, shr_and_val s m hs hm l (fun x hx => h x (by simp [hx]))]
    rfl
theorem val_add (f g : Nat → Nat) : ∀ l : List Nat, val (l.map f) + val (l.map g) = val (l.map fun b => f b + g b)
  | [] => rfl
  | b :: l => by
    have := val_add f g l
    simp only [List.map_cons, val] at this ⊢
    omega
theorem pop_val : ∀ l : List Nat, (∀ b ∈ l, b < 256) → pop (val l) = (l.map pop).sum
  | [], _ => pop_zero
  | b :: l, h => by
    have h1 := pop_add 8 b (val l) (h b (by simp))
    have h2 := pop_val l (fun x hx => h x (by simp [hx]))
    simp only [List.map_cons, List.sum_cons, val]
    rw [← h2]
    exact h1

def g1 (b : Nat) : Nat := ((b / 2) &&& 85) + (b &&& 85)
def g2 (b : Nat) : Nat := ((b / 4) &&& 51) + (b &&& 51)
def g3 (b : Nat) : Nat := (b / 16 + b) % 16
theorem bytes_ok : ∀ b : Fin 256, g1 b < 256 ∧ g2 (g1 b) < 256 ∧ g2 (g1 b) / 16 ≤ 4 ∧ g2 (g1 b) % 16 ≤ 4 ∧ g3 (g2 (g1 b)) = pop b ∧ pop b ≤ 8 := by
  decide +kernel

def m0 : Nat := 6148914691236517205
def m1 : Nat := 3689348814741910323
def m2 : Nat := 1085102592571150095

/-- The way by halves. -/
def swar (x : Nat) : Nat :=
  let x1 := ((x / 2) &&& m0) + (x &&& m0)
  let x2 := ((x1 / 4) &&& m1) + (x1 &&& m1)
  let x3 := (x2 / 16 + x2) &&& m2
  let x4 := x3 + x3 / 256
  let x5 := x4 + x4 / 65536
  let x6 := x5 + x5 / 4294967296
  x6 % 128

theorem nib (c0 c1 c2 c3 c4 c5 c6 c7 : Nat) (l0 : c0 / 16 ≤ 4 ∧ c0 % 16 ≤ 4) (l1 : c1 / 16 ≤ 4 ∧ c1 % 16 ≤ 4) (l2 : c2 / 16 ≤ 4 ∧ c2 % 16 ≤ 4) (l3 : c3 / 16 ≤ 4 ∧ c3 % 16 ≤ 4)
    (l4 : c4 / 16 ≤ 4 ∧ c4 % 16 ≤ 4) (l5 : c5 / 16 ≤ 4 ∧ c5 % 16 ≤ 4) (l6 : c6 / 16 ≤ 4 ∧ c6 % 16 ≤ 4) (l7 : c7 / 16 ≤ 4 ∧ c7 % 16 ≤ 4) :
    (val [c0, c1, c2, c3, c4, c5, c6, c7] / 16 + val [c0, c1, c2, c3, c4, c5, c6, c7]) &&& m2 = val [g3 c0, g3 c1, g3 c2, g3 c3, g3 c4, g3 c5, g3 c6, g3 c7] := by
  have e : val [c0, c1, c2, c3, c4, c5, c6, c7] / 16 + val [c0, c1, c2, c3, c4, c5, c6, c7] =
      val [c0 / 16 + c0 + 16 * (c1 % 16), c1 / 16 + c1 + 16 * (c2 % 16), c2 / 16 + c2 + 16 * (c3 % 16), c3 / 16 + c3 + 16 * (c4 % 16), c4 / 16 + c4 + 16 * (c5 % 16), c5 / 16 + c5 + 16 * (c6 % 16), c6 / 16 + c6 + 16 * (c7 % 16), c7 / 16 + c7] := by
    simp only [val]; omega
  have hm : m2 = val (List.replicate 8 15) := by decide +kernel
  rw [e, hm]
  have := and_val 15 (by omega) [c0 / 16 + c0 + 16 * (c1 % 16), c1 / 16 + c1 + 16 * (c2 % 16), c2 / 16 + c2 + 16 * (c3 % 16), c3 / 16 + c3 + 16 * (c4 % 16), c4 / 16 + c4 + 16 * (c5 % 16), c5 / 16 + c5 + 16 * (c6 % 16), c6 / 16 + c6 + 16 * (c7 % 16), c7 / 16 + c7] (by
    intro b hb
    simp only [List.mem_cons, List.not_mem_nil, or_false] at hb
    omega)
  simp only [List.length_cons, List.length_nil] at this
  rw [this]
  have a15 : ∀ n : Nat, n &&& 15 = n % 16 := fun n => Nat.and_two_pow_sub_one_eq_mod n 4
  simp only [List.map_cons, List.map_nil, a15, g3]
  simp only [Nat.add_mul_mod_self_left]

theorem low (d0 d1 d2 d3 d4 d5 d6 d7 : Nat) (h0 : d0 ≤ 8) (h1 : d1 ≤ 8) (h2 : d2 ≤ 8) (h3 : d3 ≤ 8) (h4 : d4 ≤ 8) (h5 : d5 ≤ 8) (h6 : d6 ≤ 8) (h7 : d7 ≤ 8) (x3 x4 x5 x6 : Nat)
    (e3 : x3 = val [d0, d1, d2, d3, d4, d5, d6, d7]) (e4 : x4 = x3 + x3 / 256) (e5 : x5 = x4 + x4 / 65536) (e6 : x6 = x5 + x5 / 4294967296) : x6 % 128 = d0 + d1 + d2 + d3 + d4 + d5 + d6 + d7 := by
  have a3 : x3 / 256 = val [d1, d2, d3, d4, d5, d6, d7] := by rw [e3]; simp only [val]; omega
  have a4 : x4 = val [d0 + d1, d1 + d2, d2 + d3, d3 + d4, d4 + d5, d5 + d6, d6 + d7, d7] := by rw [e4, a3, e3]; simp only [val]; omega
  have b4 : x4 / 65536 = val [d2 + d3, d3 + d4, d4 + d5, d5 + d6, d6 + d7, d7] := by rw [a4]; simp only [val]; omega
  have a5 : x5 = val [d0 + d1 + (d2 + d3), d1 + d2 + (d3 + d4), d2 + d3 + (d4 + d5), d3 + d4 + (d5 + d6), d4 + d5 + (d6 + d7), d5 + d6 + d7, d6 + d7, d7] := by rw [e5, b4, a4]; simp only [val]; omega
  have b5 : x5 / 4294967296 = val [d4 + d5 + (d6 + d7), d5 + d6 + d7, d6 + d7, d7] := by rw [a5]; simp only [val]; omega
  rw [e6, b5, a5]
  simp only [val]
  omega

theorem swar_pop (x : Nat) (hx : x < 18446744073709551616) : swar x = pop x := by
  obtain ⟨b0, b1, b2, b3, b4, b5, b6, b7, hv, k0, k1, k2, k3, k4, k5, k6, k7⟩ : ∃ b0 b1 b2 b3 b4 b5 b6 b7 : Nat, x = val [b0, b1, b2, b3, b4, b5, b6, b7] ∧ b0 < 256 ∧ b1 < 256 ∧ b2 < 256 ∧ b3 < 256 ∧ b4 < 256 ∧ b5 < 256 ∧ b6 < 256 ∧ b7 < 256 :=
    ⟨x % 256, x / 256 % 256, x / 65536 % 256, x / 16777216 % 256, x / 4294967296 % 256, x / 1099511627776 % 256, x / 281474976710656 % 256, x / 72057594037927936, by simp only [val]; omega, by omega, by omega, by omega, by omega, by omega, by omega, by omega, by omega⟩
  have hb : ∀ b ∈ [b0, b1, b2, b3, b4, b5, b6, b7], b < 256 := by
    intro b hb
    simp only [List.mem_cons, List.not_mem_nil, or_false] at hb
    omega
  have P : ∀ b ∈ [b0, b1, b2, b3, b4, b5, b6, b7], g1 b < 256 ∧ g2 (g1 b) < 256 ∧ g2 (g1 b) / 16 ≤ 4 ∧ g2 (g1 b) % 16 ≤ 4 ∧ g3 (g2 (g1 b)) = pop b ∧ pop b ≤ 8 := fun b h => bytes_ok ⟨b, hb b h⟩
  have q0 := P b0 (by simp)
  have q1 := P b1 (by simp)
  have q2 := P b2 (by simp)
  have q3 := P b3 (by simp)
  have q4 := P b4 (by simp)
  have q5 := P b5 (by simp)
  have q6 := P b6 (by simp)
  have q7 := P b7 (by simp)
  have hm0 : m0 = val (List.replicate 8 85) := by decide +kernel
  have hm1 : m1 = val (List.replicate 8 51) := by decide +kernel
  have s1 : ((x / 2) &&& m0) + (x &&& m0) = val ([b0, b1, b2, b3, b4, b5, b6, b7].map g1) := by
    rw [hv, hm0]
    have a := shr_and_val 1 85 (by omega) (by omega) _ hb
    have b := and_val 85 (by omega) _ hb
    simp only [List.length_cons, List.length_nil] at a b
    rw [show (2 : Nat) = 2 ^ 1 from rfl, a, b, val_add]
    rfl
  have hb1 : ∀ b ∈ [b0, b1, b2, b3, b4, b5, b6, b7].map g1, b < 256 := by
    intro b h
    obtain ⟨c, hc, rfl⟩ := List.mem_map.1 h
    exact (P c hc).1
  have s2 : ((((x / 2) &&& m0) + (x &&& m0)) / 4 &&& m1) + ((((x / 2) &&& m0) + (x &&& m0)) &&& m1) = val (([b0, b1, b2, b3, b4, b5, b6, b7].map g1).map g2) := by
    rw [s1, hm1]
    have a := shr_and_val 2 51 (by omega) (by omega) _ hb1
    have b := and_val 51 (by omega) _ hb1
    simp only [List.length_cons, List.length_nil, List.length_map] at a b
    rw [show (4 : Nat) = 2 ^ 2 from rfl, a, b, val_add]
    rfl
  have hp : pop x = pop b0 + pop b1 + pop b2 + pop b3 + pop b4 + pop b5 + pop b6 + pop b7 := by
    rw [hv, pop_val _ hb]
    simp only [List.map_cons, List.map_nil, List.sum_cons, List.sum_nil]
    omega
  rw [hp]
  refine low (pop b0) (pop b1) (pop b2) (pop b3) (pop b4) (pop b5) (pop b6) (pop b7) (by omega) (by omega) (by omega) (by omega) (by omega) (by omega) (by omega) (by omega) _ _ _ _ ?_ rfl rfl rfl
  rw [s2]
  simp only [List.map_cons, List.map_nil]
  rw [nib _ _ _ _ _ _ _ _ ⟨q0.2.2.1, q0.2.2.2.1⟩ ⟨q1.2.2.1, q1.2.2.2.1⟩ ⟨q2.2.2.1, q2.2.2.2.1⟩ ⟨q3.2.2.1, q3.2.2.2.1⟩ ⟨q4.2.2.1, q4.2.2.2.1⟩ ⟨q5.2.2.1, q5.2.2.2.1⟩ ⟨q6.2.2.1, q6.2.2.2.1⟩ ⟨q7.2.2.1, q7.2.2.2.1⟩]
  rw [q0.2.2.2.2.1, q1.2.2.2.2.1, q2.2.2.2.2.1, q3.2.2.2.2.1, q4.2.2.2.2.1, q5.2.2.2.2.1, q6.2.2.2.2.1, q7.2.2.2.2.1]
end Go.Proofs.Ytfgfnfjeopjbgaa.PN
