/-
  A forest that New did not give has no nodes.
-/
import Derived.Test.YtdhcmnbajkpjiaaNodeH
namespace Go.Proofs.Ytdhcmnbajkpjiaa
open Go.RowKit
open Go.Maps
set_option linter.unusedVariables false
set_option linter.unusedSimpArgs false
attribute [local go_sem] drewN_alloc drewN_setCell

def NoF (w : World) (A : Option Addr) : Prop := A = none ∨ ∃ Z, A = some ⟨Z, 0, none⟩ ∧ w.cell? ⟨Z, 1, none⟩ = some (.pointer none)
theorem nof_is {w : World} {A : Option Addr} (h : NoF w A) : Calls Try.prog 115 #[.pointer A] w fun e w' => e = .returned (.bool false) ∧ w = w' := by
  rcases h with rfl | ⟨Z, rfl, c⟩
  · go_enter Try.func115, Try.ntmps115
    go_wp2_with fail
    go_ret
    exact ⟨rfl, rfl⟩
  · go_enter Try.func115, Try.ntmps115
    go_wp2_with fail
    go_ret
    exact ⟨rfl, rfl⟩
theorem nof_Is (x : Int) {w : World} {A : Option Addr} (h : NoF w A) : Calls Try.prog 48 #[.pointer A, .int .i64 x] w fun e w' => e = .returned (.bool false) ∧ w = w' := by
  have K := Lib.hid (nof_is h)
  clear h
  go_enter Try.func48, Try.ntmps48
  go_wp2_with fail
  refine K.out.mono ?_
  rintro e w1 ⟨rfl, rfl⟩
  go_wp2_with fail
  exact bodyPost_ret (v := .bool false) (by simp [results, Try.results48, go_sem]) rfl ⟨rfl, rfl⟩
theorem nof_Root {w : World} {A : Option Addr} (h : NoF w A) : Calls Try.prog 41 #[.pointer A] w fun e w' => e = .returned (.tuple #[.int .i64 0, .int .i64 0, .bool false]) ∧ w = w' := by
  have K := Lib.hid (nof_is h)
  clear h
  go_enter Try.func41, Try.ntmps41
  go_wp2_with fail
  refine K.out.mono ?_
  rintro e w1 ⟨rfl, rfl⟩
  go_wp2_with fail
  exact bodyPost_ret (v := .tuple #[.int .i64 0, .int .i64 0, .bool false]) (by simp [results, Try.results41, go_sem]) rfl ⟨rfl, rfl⟩
theorem nof_Next (x : Int) {w : World} {A : Option Addr} (h : NoF w A) : Calls Try.prog 54 #[.pointer A, .int .i64 x] w fun e w' => e = .returned (.int .i64 (-1)) ∧ w = w' := by
  have K := Lib.hid (nof_is h)
  clear h
  go_enter Try.func54, Try.ntmps54
  go_wp2_with fail
  refine K.out.mono ?_
  rintro e w1 ⟨rfl, rfl⟩
  go_wp2_with fail
  exact bodyPost_ret (v := .int .i64 (-1)) (by simp [results, Try.results54, go_sem]) rfl ⟨rfl, rfl⟩
theorem nof_Right (x y : Int) {w : World} {A : Option Addr} (h : NoF w A) : Calls Try.prog 52 #[.pointer A, .int .i64 x, .int .i64 y] w fun e w' => e = .returned (.bool false) ∧ w = w' := by
  have K := Lib.hid (nof_is h)
  clear h
  go_enter Try.func52, Try.ntmps52
  go_wp2_with fail
  refine K.out.mono ?_
  rintro e w1 ⟨rfl, rfl⟩
  go_wp2_with fail
  exact bodyPost_ret (v := .bool false) (by simp [results, Try.results52, go_sem]) rfl ⟨rfl, rfl⟩
theorem nof_Roots {w : World} {A : Option Addr} (h : NoF w A) : Calls Try.prog 46 #[.pointer A] w fun e w' => e = .returned (.slice none 0 0) ∧ w = w' := by
  have K := Lib.hid (nof_is h)
  clear h
  go_enter Try.func46, Try.ntmps46
  go_wp2_with fail
  refine K.out.mono ?_
  rintro e w1 ⟨rfl, rfl⟩
  go_wp2_with fail
  exact bodyPost_ret (v := .slice none 0 0) (by simp [results, Try.results46, go_sem]) rfl ⟨rfl, rfl⟩
theorem nof_Len {w : World} {A : Option Addr} (h : NoF w A) : Calls Try.prog 44 #[.pointer A] w fun e w' => e = .returned (.int .i64 0) ∧ w = w' := by
  have K := Lib.hid (nof_is h)
  clear h
  go_enter Try.func44, Try.ntmps44
  go_wp2_with fail
  refine K.out.mono ?_
  rintro e w1 ⟨rfl, rfl⟩
  go_wp2_with fail
  exact bodyPost_ret (v := .int .i64 0) (by simp [results, Try.results44, go_sem]) rfl ⟨rfl, rfl⟩
theorem nof_Child (x : Int) {w : World} {A : Option Addr} (h : NoF w A) : Calls Try.prog 40 #[.pointer A, .int .i64 x] w fun e w' => e = .returned (.tuple #[.int .i64 0, .int .i64 0, .bool false]) ∧ w = w' := by
  have K := Lib.hid (nof_Is x h)
  clear h
  go_enter Try.func40, Try.ntmps40
  go_wp2_with fail
  refine K.out.mono ?_
  rintro e w1 ⟨rfl, rfl⟩
  go_wp2_with fail
  exact bodyPost_ret (v := .tuple #[.int .i64 0, .int .i64 0, .bool false]) (by simp [results, Try.results40, go_sem]) rfl ⟨rfl, rfl⟩
theorem nof_Drop (x : Int) {w : World} {A : Option Addr} (h : NoF w A) : Calls Try.prog 39 #[.pointer A, .int .i64 x] w fun e w' => e = .returned (.bool false) ∧ w = w' := by
  have K := Lib.hid (nof_Is x h)
  clear h
  go_enter Try.func39, Try.ntmps39
  go_wp2_with fail
  refine K.out.mono ?_
  rintro e w1 ⟨rfl, rfl⟩
  go_wp2_with fail
  exact bodyPost_ret (v := .bool false) (by simp [results, Try.results39, go_sem]) rfl ⟨rfl, rfl⟩
theorem nof_Parent (x : Int) {w : World} {A : Option Addr} (h : NoF w A) : Calls Try.prog 49 #[.pointer A, .int .i64 x] w fun e w' => e = .returned (.int .i64 (-1)) ∧ w = w' := by
  have K := Lib.hid (nof_Is x h)
  clear h
  go_enter Try.func49, Try.ntmps49
  go_wp2_with fail
  refine K.out.mono ?_
  rintro e w1 ⟨rfl, rfl⟩
  go_wp2_with fail
  exact bodyPost_ret (v := .int .i64 (-1)) (by simp [results, Try.results49, go_sem]) rfl ⟨rfl, rfl⟩
theorem nof_First (x : Int) {w : World} {A : Option Addr} (h : NoF w A) : Calls Try.prog 53 #[.pointer A, .int .i64 x] w fun e w' => e = .returned (.int .i64 (-1)) ∧ w = w' := by
  have K := Lib.hid (nof_Is x h)
  clear h
  go_enter Try.func53, Try.ntmps53
  go_wp2_with fail
  refine K.out.mono ?_
  rintro e w1 ⟨rfl, rfl⟩
  go_wp2_with fail
  exact bodyPost_ret (v := .int .i64 (-1)) (by simp [results, Try.results53, go_sem]) rfl ⟨rfl, rfl⟩
theorem nof_Children (x : Int) {w : World} {A : Option Addr} (h : NoF w A) : Calls Try.prog 51 #[.pointer A, .int .i64 x] w fun e w' => e = .returned (.slice none 0 0) ∧ w = w' := by
  have K := Lib.hid (nof_Is x h)
  clear h
  go_enter Try.func51, Try.ntmps51
  go_wp2_with fail
  refine K.out.mono ?_
  rintro e w1 ⟨rfl, rfl⟩
  go_wp2_with fail
  exact bodyPost_ret (v := .slice none 0 0) (by simp [results, Try.results51, go_sem]) rfl ⟨rfl, rfl⟩
def HasRel (w : World) (xs : List Int) (x : Int) (n : Nat) (i : Value) (wr : World) : Prop := ∃ k : Nat, k ≤ n ∧ i = .int .i64 k ∧ (∀ j, j < k → xs.getD j 0 ≠ x) ∧ wr = w
theorem base_Has {A : Option Addr} {n : Nat} {xs : List Int} (c : Nat) (x : Int) {w : World} (h : IntsAt w A n xs) : Calls Try.prog 50 #[.slice A n c, .int .i64 x] w fun e w' => e = .returned (.bool (decide (x ∈ xs))) ∧ w = w' := by
  have hl := h.1
  have hn := h.2.1
  have HC := Lib.hid h.2.2
  clear h
  go_enter Try.func50, Try.ntmps50
  go_wp2_with fail
  go_loopw [5] (fun i wr => HasRel w xs x n i wr) (fun i _ => n - (intOf i).toNat)
  case atStart => exact ⟨0, Nat.zero_le _, rfl, fun j hj => absurd hj (by omega), rfl⟩
  case round =>
    obtain ⟨k, hk, rfl, hno, rfl⟩ := hrel
    have HN := Lib.hid hno
    clear hno
    by_cases hlt : (k : Int) < (n : Int)
    · obtain ⟨b, off, rfl, hb, hc⟩ := HC.out (by omega)
      have xk := hc k (by omega)
      have HNX : Hid (xs.getD k 0 ≠ x → ∀ j, j < k + 1 → xs.getD j 0 ≠ x) := Lib.hid (fun hq j hj => by
        rcases Nat.lt_or_ge j k with h1 | h1
        · exact HN.out j h1
        · obtain rfl : j = k := by omega
          exact hq)
      have HYX : Hid (xs.getD k 0 = x → true = decide (x ∈ xs)) := Lib.hid (fun hq => (decide_eq_true (by
        have e : xs.getD k 0 = xs[k]'(by omega) := by simp [List.getD, show k < xs.length by omega]
        rw [← hq, e]
        exact List.getElem_mem _)).symm)
      obtain ⟨y, hy⟩ : ∃ y, xs.getD k 0 = y := ⟨_, rfl⟩
      rw [hy] at xk HNX HYX
      have j0 : (0 : Int) ≤ (k : Int) := by omega
      have j1 : (k : Int) < (n : Int) := hlt
      clear hc hy
      by_cases hq : y = x
      · have q : (y == x) = true := by simpa using hq
        have HE := Lib.hid (HYX.out hq)
        subst hq
        go_wp2_with fail
        go_ret
        exact ⟨ret_bool HE.out, rfl⟩
      · have q : (y == x) = false := by simpa using hq
        have HE := Lib.hid (HNX.out hq)
        go_wp2_with fail
        go_roundw
        case rel => exact ⟨k + 1, by omega, by go_num, HE.out, rfl⟩
        case measure => simp [intOf] <;> omega
    · have HE : Hid (false = decide (x ∈ xs)) := Lib.hid (decide_eq_false (fun hm => by
        obtain ⟨j, hj, e⟩ := List.mem_iff_getElem.1 hm
        exact HN.out j (by omega) (by simp [List.getD, hj, e]))).symm
      go_wp2_with fail
      go_ret
      exact ⟨ret_bool HE.out, rfl⟩
end Go.Proofs.Ytdhcmnbajkpjiaa
