/-
  The reference's rows in memory: Place, Of, Row, Beside.
-/
import Derived.Test.YtdhcmnbajkpjiaaPlainChain2
import Derived.Test.YtdhcmnbajkpjiaaChainI
import Derived.Test.YtdhcmnbajkpjiaaAppend
namespace Go.Proofs.Ytdhcmnbajkpjiaa
open Go.RowKit
set_option linter.unusedVariables false
attribute [local go_sem] drewN_alloc drewN_setCell

variable {B : Nat}
/-- A slice value that reads as xs, in a block from B on. -/
def SliceAt (B : Nat) (w : World) (v : Value) (xs : List Int) : Prop := ∃ A n c, v = .slice A n c ∧ IntsFrom B w A n xs ∧ n ≤ c ∧ c ≤ 9223372036854775807
theorem SliceAt.mono {B' : Nat} {w : World} {v : Value} {xs : List Int} (h : SliceAt B w v xs) (hB : B' ≤ B) : SliceAt B' w v xs := by
  obtain ⟨A, n, c, e, h1, h2⟩ := h
  exact ⟨A, n, c, e, h1.mono hB, h2⟩
theorem SliceAt.keep {w w' : World} {v : Value} {xs : List Int} (h : SliceAt B w v xs) (k : Below w.heap.size w w') : SliceAt B w' v xs := by
  obtain ⟨A, n, c, e, h1, h2⟩ := h
  exact ⟨A, n, c, e, h1.keep k, h2⟩
/-- A slice of l slices of ints, whose elements read as these rows. -/
def RowsAt (B : Nat) (w : World) (A : Option Addr) (l : Nat) (R : Nat → List Nat) : Prop :=
  l ≤ 1048576 ∧ ∃ b off, A = some ⟨b, off, none⟩ ∧ (0 < l → b < w.heap.size ∧ B ≤ b) ∧ ∀ i, i < l → ∃ v, w.cell? ⟨b, off + i, none⟩ = some v ∧ SliceAt B w v (ints (R i))
theorem RowsAt.keep {w w' : World} {A : Option Addr} {l : Nat} {R : Nat → List Nat} (h : RowsAt B w A l R) (k : Below w.heap.size w w') : RowsAt B w' A l R := by
  obtain ⟨h0, b, off, e, hb, hc⟩ := h
  refine ⟨h0, b, off, e, fun hl => ⟨Nat.lt_of_lt_of_le (hb hl).1 k.size, (hb hl).2⟩, fun i hi => ?_⟩
  obtain ⟨v, h1, h2⟩ := hc i hi
  exact ⟨v, (k.cell (hb (by omega)).1).trans h1, h2.keep k⟩

theorem place_some {r : List Nat} {x : Int} {k : Nat} (hk : k < r.length) (h : ((r[k] : Nat) : Int) = x) (hf : ∀ j (hj : j < r.length), j < k → ((r[j] : Nat) : Int) ≠ x) : PC.place r x = k := by
  subst h
  unfold PC.place
  rw [if_pos ⟨by omega, by simp⟩, Int.toNat_natCast, PC.place_of hk rfl (fun j hj hlt e => hf j hj hlt (by omega))]
theorem place_none {r : List Nat} {x : Int} (hf : ∀ j (hj : j < r.length), ((r[j] : Nat) : Int) ≠ x) : PC.place r x = -1 := by
  unfold PC.place
  rw [if_neg]
  rintro ⟨h0, hm⟩
  obtain ⟨j, hj, e⟩ := List.mem_iff_getElem.1 hm
  exact hf j hj (by omega)
theorem ints_get {r : List Nat} {k : Nat} (hk : k < r.length) : (ints r).getD k 0 = ((r[k] : Nat) : Int) := by simp [ints, List.getD, hk]

def PlaceRel (r : List Nat) (x : Int) (i : Value) : Prop := ∃ k : Nat, k ≤ r.length ∧ i = .int .i64 k ∧ ∀ j (hj : j < r.length), j < k → ((r[j] : Nat) : Int) ≠ x

theorem ref05_Place (A : Option Addr) (n c : Nat) (r : List Nat) (x : Int) (w : World) (h : IntsAt w A n (ints r)) :
    Calls Try.prog 104 #[.slice A n c, .int .i64 x] w fun e w' => e = .returned (.int .i64 (PC.place r x)) ∧ w = w' := by
  have hl : n = r.length := by have := h.1; rw [ints_len] at this; omega
  subst hl
  have hm : r.length ≤ 9223372036854775807 := h.2.1
  have H := Lib.hid h
  obtain ⟨p, hp⟩ : ∃ p, PC.place r x = p := ⟨_, rfl⟩
  rw [hp]
  have HP := Lib.hid hp
  clear h hp
  go_enter Try.func104, Try.ntmps104
  go_wp2_with fail
  go_loop [5] (fun i => PlaceRel r x i) (fun i => r.length - (intOf i).toNat)
  case atStart => exact ⟨0, Nat.zero_le _, rfl, fun j hj h => absurd h (by omega)⟩
  case round =>
    obtain ⟨k, hk, rfl, hf⟩ := hrel
    have HF := Lib.hid hf
    clear hf
    have g0 : (0 : Int) ≤ (k : Int) := by omega
    by_cases hlt : k < r.length
    · have hlt' : (k : Int) < (r.length : Int) := by omega
      obtain ⟨b, off, rfl, hb, hc⟩ := H.out.2.2 (by omega)
      have x0 := hc k hlt
      rw [ints_get hlt] at x0
      obtain ⟨v, hv⟩ : ∃ v : Nat, r[k] = v := ⟨_, rfl⟩
      rw [hv] at x0
      clear hc
      by_cases hvx : (v : Int) = x
      · have e := place_some hlt (by rw [hv]; exact hvx) HF.out
        rw [HP.out] at e
        have E := Lib.hid e
        have e1 : ((v : Int) == x) = true := by simpa using hvx
        clear e hvx hv
        go_wp2_with fail
        go_ret
        exact ⟨ret_int E.out.symm, rfl⟩
      · have e1 : ((v : Int) == x) = false := by simpa using hvx
        have HV := Lib.hid hv
        have HX := Lib.hid hvx
        clear hv hvx
        go_wp2_with fail
        go_round
        case rel =>
          refine ⟨k + 1, by omega, by go_num, fun j hj hjk => ?_⟩
          by_cases e : j = k
          · subst e; rw [HV.out]; exact HX.out
          · exact HF.out j hj (by omega)
        case measure => simp [intOf]; omega
    · have hkn : k = r.length := by omega
      have e := place_none (fun j hj => HF.out j hj (by omega))
      rw [HP.out] at e
      have E := Lib.hid e
      clear e hkn
      go_wp2_with fail
      go_ret
      exact ⟨ret_int E.out.symm, rfl⟩

theorem place_neg {r : List Nat} {x : Int} : PC.place r x < 0 ↔ ¬ (0 ≤ x ∧ x.toNat ∈ r) := by
  unfold PC.place
  split <;> rename_i h
  · exact ⟨fun hh => by omega, fun hh => absurd h hh⟩
  · exact ⟨fun _ => h, fun _ => by omega⟩

def OfRel (l : Nat) (R : Nat → List Nat) (x : Int) (i : Value) : Prop := ∃ k : Nat, k ≤ l ∧ i = .int .i64 k ∧ ∀ j, j < k → ¬ (0 ≤ x ∧ x.toNat ∈ R j)

theorem ref05_Of (A : Option Addr) (l c : Nat) (R : Nat → List Nat) (x : Int) (w : World) (h : RowsAt B w A l R) :
    Calls Try.prog 103 #[.slice A l c, .int .i64 x] w fun e w' => e = .returned (.int .i64 (PC.ofV l R x)) ∧ w = w' := by
  obtain ⟨hl, b, off, rfl, hb, hc⟩ := h
  have H := Lib.hid hc
  obtain ⟨o, ho⟩ : ∃ o, PC.ofV l R x = o := ⟨_, rfl⟩
  rw [ho]
  have HO := Lib.hid ho
  clear hc hb ho
  go_enter Try.func103, Try.ntmps103
  go_wp2_with fail
  go_loop [5] (fun i => OfRel l R x i) (fun i => l - (intOf i).toNat)
  case atStart => exact ⟨0, Nat.zero_le _, rfl, fun j h => absurd h (by omega)⟩
  case round =>
    obtain ⟨k, hk, rfl, hf⟩ := hrel
    have HF := Lib.hid hf
    clear hf
    have g0 : (0 : Int) ≤ (k : Int) := by omega
    by_cases hlt : k < l
    · have hlt' : (k : Int) < (l : Int) := by omega
      obtain ⟨v, x0, A1, n1, c1, rfl, hi, -⟩ := H.out k hlt
      have P := Lib.hid (ref05_Place A1 n1 c1 (R k) x w hi.1)
      clear hi
      by_cases hp : PC.place (R k) x < 0
      · have hnm := Lib.hid (place_neg.1 hp)
        generalize PC.place (R k) x = p at *
        go_wp2_with fail
        refine P.out.mono ?_
        rintro e w1 ⟨rfl, rfl⟩
        go_wp2_with fail
        go_round
        case rel =>
          refine ⟨k + 1, by omega, by go_num, fun j hjk => ?_⟩
          by_cases e : j = k
          · subst e; exact hnm.out
          · exact HF.out j (by omega)
        case measure => simp [intOf]; omega
      · have hmem : 0 ≤ x ∧ x.toNat ∈ R k := by
          rcases Classical.em (0 ≤ x ∧ x.toNat ∈ R k) with h | h
          · exact h
          · exact absurd (place_neg.2 h) hp
        have e : PC.ofV l R x = k := by
          unfold PC.ofV
          rw [PC.rowOf_first hlt hmem.1 hmem.2 (fun j hj hh => HF.out j hj ⟨hmem.1, hh⟩)]
        rw [HO.out] at e
        have E := Lib.hid e
        have hp' : 0 ≤ PC.place (R k) x := by omega
        generalize PC.place (R k) x = p at *
        clear hmem e hp
        go_wp2_with fail
        refine P.out.mono ?_
        rintro e w1 ⟨rfl, rfl⟩
        go_wp2_with fail
        go_ret
        exact ⟨ret_int E.out.symm, rfl⟩
    · have hkn : k = l := by omega
      have e : PC.ofV l R x = -1 := PC.ofV_none (PC.rowOf_not fun i hi => HF.out i (by omega))
      rw [HO.out] at e
      have E := Lib.hid e
      clear e hkn
      go_wp2_with fail
      go_ret
      exact ⟨ret_int E.out.symm, rfl⟩

/-- A call hands back a slice that reads so; nothing is changed. -/
def TellsInts (B : Nat) (w : World) (xs : List Int) (e : Ending) (w' : World) : Prop := ∃ v, e = .returned v ∧ SliceAt B w v xs ∧ w = w'

theorem ref05_Row (A : Option Addr) (l c : Nat) (R : Nat → List Nat) (i : Int) (w : World) (h : RowsAt B w A l R) :
    Calls Try.prog 106 #[.slice A l c, .int .i64 i] w (TellsInts B w (ints (PC.rowV l R i))) := by
  obtain ⟨hl, b, off, rfl, hb, hc⟩ := h
  by_cases h0 : i < 0
  · rw [PC.rowV_out (by omega)]
    clear hc hb
    go_enter Try.func106, Try.ntmps106
    go_wp2_with fail
    go_ret
    exact ⟨_, rfl, ⟨none, 0, 0, rfl, IntsFrom.nil, by omega, by omega⟩, rfl⟩
  · by_cases h1 : (l : Int) ≤ i
    · rw [PC.rowV_out (by omega)]
      clear hc hb
      go_enter Try.func106, Try.ntmps106
      go_wp2_with fail
      go_ret
      exact ⟨_, rfl, ⟨none, 0, 0, rfl, IntsFrom.nil, by omega, by omega⟩, rfl⟩
    · obtain ⟨k, rfl⟩ : ∃ k : Nat, i = k := ⟨i.toNat, by omega⟩
      have hk : k < l := by omega
      rw [PC.rowV_in hk]
      obtain ⟨v, x0, hs⟩ := hc k hk
      have HS := Lib.hid hs
      have g0 : (0 : Int) ≤ (k : Int) := by omega
      have g1 : (k : Int) < (l : Int) := by omega
      obtain ⟨A1, n1, c1, rfl, hs'⟩ := hs
      clear hc hb hs'
      go_enter Try.func106, Try.ntmps106
      go_wp2_with fail
      go_ret
      exact ⟨_, rfl, HS.out, rfl⟩
end Go.Proofs.Ytdhcmnbajkpjiaa
