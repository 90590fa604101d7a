/-
  Each open place is in one list; the lists have all open places together.
-/
import Derived.Test.YtdhcmnbajkpjiaaNodeJ
namespace Go.Proofs.Ytdhcmnbajkpjiaa
open Go.RowKit
open Go.Maps
set_option linter.unusedVariables false
set_option linter.unusedSimpArgs false
attribute [local go_sem] drewN_alloc drewN_setCell

def catR (R : Nat → List Nat) : Nat → List Nat
  | 0 => []
  | k + 1 => catR R k ++ R k
def sumKids (O : List Nat) (R : Nat → List Nat) : Nat → Nat
  | 0 => 0
  | k + 1 => sumKids O R k + (kidV O R (k : Int)).length
def cntO (O : List Nat) : Nat → Nat
  | 0 => 0
  | k + 1 => cntO O k + (if (k : Int) ∈ ints O then 1 else 0)
theorem catR_mem {R : Nat → List Nat} {x : Nat} : ∀ {k : Nat}, x ∈ catR R k ↔ ∃ i, i < k ∧ x ∈ R i
  | 0 => ⟨fun h => by simp [catR] at h, fun ⟨i, h, _⟩ => by omega⟩
  | k + 1 => by
    unfold catR
    rw [List.mem_append, catR_mem]
    constructor
    · rintro (⟨i, h, hx⟩ | hx)
      · exact ⟨i, by omega, hx⟩
      · exact ⟨k, by omega, hx⟩
    · rintro ⟨i, h, hx⟩
      rcases Nat.lt_or_ge i k with h1 | h1
      · exact .inl ⟨i, h1, hx⟩
      · obtain rfl : i = k := by omega
        exact .inr hx
theorem catR_nodup {n l : Nat} {St : CS} {R : Nat → List Nat} (hc : PC.Inv n l St R) : ∀ k, k ≤ l → (catR R k).Nodup
  | 0, _ => List.nodup_nil
  | k + 1, h => by
    unfold catR
    refine List.nodup_append.2 ⟨catR_nodup hc k (by omega), hc.nd k (by omega), fun a ha b hb e => ?_⟩
    subst e
    obtain ⟨i, hi, hx⟩ := catR_mem.1 ha
    have := hc.one (by omega) (by omega) hx hb
    omega
variable {n : Nat} {up : List Int} {O cl : List Nat} {fr : Nat} {R : Nat → List Nat} {St : CS}
theorem kid_row (hi : FI n up O cl fr R) {j : Nat} (hj : j < n) : kidV O R (j : Int) = R j := by
  unfold kidV
  by_cases h : (j : Int) ∈ ints O
  · rw [if_pos h]; rfl
  · rw [if_neg h]
    rcases hr : R j with _ | ⟨x, t⟩
    · rfl
    · rcases hi.pa x j (by omega) (by rw [hr]; exact List.mem_cons_self) with ⟨a, _⟩ | ⟨_, b, _⟩
      · omega
      · exact absurd (in_ints.2 b) h
theorem sum_cat (hi : FI n up O cl fr R) : ∀ k, k ≤ n → sumKids O R k = (catR R k).length
  | 0, _ => rfl
  | k + 1, h => by
    unfold sumKids catR
    rw [sum_cat hi k (by omega), kid_row hi (by omega), List.length_append]
theorem sum_all (hi : FI n up O cl fr R) (hc : PC.Inv n (n + 1) St R) : (R n).length + sumKids O R n = O.length := by
  have h1 := sum_cat hi n (Nat.le_refl _)
  have h2 : (catR R (n + 1)).Perm O := (List.perm_ext_iff_of_nodup (catR_nodup hc (n + 1) (Nat.le_refl _)) hi.s.o1).2 (fun x => ⟨fun hx => by
    obtain ⟨i, h, hx⟩ := catR_mem.1 hx
    exact hi.i1 x i h hx, fun hx => catR_mem.2 (hi.i2 x hx)⟩)
  have h3 := h2.length_eq
  unfold catR at h3
  rw [List.length_append] at h3
  omega
theorem sum_mono {O : List Nat} {R : Nat → List Nat} {k m : Nat} (h : k ≤ m) : sumKids O R k ≤ sumKids O R m := by
  induction m with
  | zero => obtain rfl : k = 0 := by omega
            exact Nat.le_refl _
  | succ m ih =>
    rcases Nat.lt_or_ge k (m + 1) with h1 | h1
    · have := ih (by omega)
      have e : sumKids O R (m + 1) = sumKids O R m + (kidV O R (m : Int)).length := rfl
      omega
    · obtain rfl : k = m + 1 := by omega
      exact Nat.le_refl _
theorem cnt_filter (O : List Nat) : ∀ k, cntO O k = ((List.range k).filter (fun x : Nat => decide ((x : Int) ∈ ints O))).length
  | 0 => rfl
  | k + 1 => by
    unfold cntO
    rw [List.range_succ, List.filter_append, List.length_append, cnt_filter O k]
    congr 1
    by_cases h : (k : Int) ∈ ints O
    · rw [if_pos h, List.filter_cons_of_pos (by simpa using h)]; rfl
    · rw [if_neg h, List.filter_cons_of_neg (by simpa using h)]; rfl
theorem cnt_le (O : List Nat) (k : Nat) : cntO O k ≤ k := by
  rw [cnt_filter]
  exact Nat.le_trans (List.length_filter_le _ _) (by simp)
theorem cnt_all (hi : FI n up O cl fr R) : cntO O n = O.length := by
  rw [cnt_filter]
  refine (List.Perm.length_eq ((List.perm_ext_iff_of_nodup (List.nodup_range.filter _) hi.s.o1).2 (fun x => ?_)))
  rw [List.mem_filter, List.mem_range]
  exact ⟨fun h => in_ints.1 (of_decide_eq_true h.2), fun h => ⟨hi.lt h, decide_eq_true (in_ints.2 h)⟩⟩
theorem once_up (hi : FI n up O cl fr R) {p : Nat} (hp : p ∈ O) : (parV O up (p : Int) = -1 ∧ p ∈ R n) ∨ ∃ i : Nat, parV O up (p : Int) = (i : Int) ∧ i ∈ O ∧ p ∈ kidV O R (i : Int) := by
  have e : parV O up (p : Int) = up.getD p 0 := by unfold parV; rw [if_pos (in_ints.2 hp)]; rfl
  obtain ⟨i, hil, hx⟩ := hi.i2 p hp
  rw [e]
  rcases hi.pa p i hil hx with ⟨rfl, b⟩ | ⟨a, b, c⟩
  · exact .inl ⟨b, hx⟩
  · exact .inr ⟨i, c, b, by rw [kid_row hi a]; exact hx⟩
end Go.Proofs.Ytdhcmnbajkpjiaa
