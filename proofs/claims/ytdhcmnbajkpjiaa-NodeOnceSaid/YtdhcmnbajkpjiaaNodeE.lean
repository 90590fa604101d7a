/-
  A forest in memory; what its calls tell.
-/
import Derived.Test.YtdhcmnbajkpjiaaNodeD
namespace Go.Proofs.Ytdhcmnbajkpjiaa
open Go.RowKit
open Go.Maps
set_option linter.unusedVariables false
set_option linter.unusedSimpArgs false
attribute [local go_sem] drewN_alloc drewN_setCell

structure NodeAt (B : Nat) (w : World) (Fb Sb Gb Mb Pb C Nb Lb n : Nat) (v : Value) (g up : List Int) (O cl : List Nat) (fr : Nat) (R : Nat → List Nat) : Prop where
  row : RowAt w Fb 77 [.pointer (some ⟨Sb, 0, none⟩), .pointer (some ⟨C, 0, none⟩), .slice (some ⟨Pb, 0, none⟩) n n]
  par : RowAt w Pb 3 (up.map (Value.int .i64))
  ulen : up.length = n
  sl : SlotsAt B w Sb Gb Mb n v g O cl fr
  ch : ChainRows w C Nb Lb n (n + 1) R
  ne : [Fb, Sb, Gb, Mb, Pb, C, Nb, Lb].Nodup
  lt : Fb < B ∧ Pb < B ∧ C < B ∧ Nb < B ∧ Lb < B
  bw : B ≤ w.heap.size
/-- What holds of places, parents and lists. -/
structure FI (n : Nat) (up : List Int) (O cl : List Nat) (fr : Nat) (R : Nat → List Nat) : Prop where
  s : SlInv n O cl fr
  i1 : ∀ x i, i < n + 1 → x ∈ R i → x ∈ O
  i2 : ∀ x, x ∈ O → ∃ i, i < n + 1 ∧ x ∈ R i
  pa : ∀ x i, i < n + 1 → x ∈ R i → (i = n ∧ up.getD x 0 = -1) ∨ (i < n ∧ i ∈ O ∧ up.getD x 0 = (i : Int))
  n1 : n ≤ 4096
variable {B : Nat} {w : World} {Fb Sb Gb Mb Pb C Nb Lb n : Nat} {v : Value} {g up : List Int} {O cl : List Nat} {fr : Nat} {R : Nat → List Nat}
theorem FI.lt (hi : FI n up O cl fr R) {x : Nat} (hx : x ∈ O) : x < n := by have := hi.s.o2 x hx; have := hi.s.f1; omega
theorem FI.of (hi : FI n up O cl fr R) (x : Int) : 0 ≤ PC.ofV (n + 1) R x ↔ x ∈ ints O := by
  unfold PC.ofV
  rcases hr : PC.rowOf (n + 1) R x with _ | i
  · have h := PC.rowOf_none hr
    constructor
    · intro h0; exact absurd h0 (by decide)
    · intro hm
      unfold ints at hm
      obtain ⟨y, hy, rfl⟩ := List.mem_map.1 hm
      obtain ⟨i, hil, him⟩ := hi.i2 y hy
      exact absurd ⟨by omega, by simpa using him⟩ (h i hil)
  · obtain ⟨a, b, c, _⟩ := PC.rowOf_some hr
    have h1 := hi.i1 _ i a c
    refine ⟨fun _ => ?_, fun _ => by simp⟩
    unfold ints
    exact List.mem_map.2 ⟨x.toNat, h1, by omega⟩
def parV (O : List Nat) (up : List Int) (x : Int) : Int := if x ∈ ints O then up.getD x.toNat 0 else -1
def kidV (O : List Nat) (R : Nat → List Nat) (x : Int) : List Nat := if x ∈ ints O then R x.toNat else []
theorem NodeAt.f0 (h : NodeAt B w Fb Sb Gb Mb Pb C Nb Lb n v g up O cl fr R) : w.cell? ⟨Fb, 0, none⟩ = some (.pointer (some ⟨Sb, 0, none⟩)) := by rw [h.row.cell]; rfl
theorem NodeAt.f1 (h : NodeAt B w Fb Sb Gb Mb Pb C Nb Lb n v g up O cl fr R) : w.cell? ⟨Fb, 1, none⟩ = some (.pointer (some ⟨C, 0, none⟩)) := by rw [h.row.cell]; rfl
theorem NodeAt.f2 (h : NodeAt B w Fb Sb Gb Mb Pb C Nb Lb n v g up O cl fr R) : w.cell? ⟨Fb, 2, none⟩ = some (.slice (some ⟨Pb, 0, none⟩) n n) := by rw [h.row.cell]; rfl
theorem NodeAt.below {w' : World} (h : NodeAt B w Fb Sb Gb Mb Pb C Nb Lb n v g up O cl fr R) (hb : Below w.heap.size w w') : NodeAt B w' Fb Sb Gb Mb Pb C Nb Lb n v g up O cl fr R :=
  ⟨h.row.keep hb, h.par.keep hb, h.ulen, h.sl.below hb, h.ch.keep hb, h.ne, h.lt, Nat.le_trans h.bw hb.size⟩
theorem node_is (h : NodeAt B w Fb Sb Gb Mb Pb C Nb Lb n v g up O cl fr R) : Calls Try.prog 115 #[.pointer (some ⟨Fb, 0, none⟩)] w fun e w' => e = .returned (.bool true) ∧ w = w' := by
  have f1 := h.f1
  clear h
  go_enter Try.func115, Try.ntmps115
  go_wp2_with fail
  go_ret
  exact ⟨rfl, rfl⟩
theorem node_roots (h : NodeAt B w Fb Sb Gb Mb Pb C Nb Lb n v g up O cl fr R) : Calls Try.prog 116 #[.pointer (some ⟨Fb, 0, none⟩)] w fun e w' => e = .returned (.int .i64 (n : Int)) ∧ w = w' := by
  have f2 := h.f2
  clear h
  go_enter Try.func116, Try.ntmps116
  go_wp2_with fail
  go_ret
  exact ⟨rfl, rfl⟩
theorem node_Is (x : Int) (h : NodeAt B w Fb Sb Gb Mb Pb C Nb Lb n v g up O cl fr R) (hi : FI n up O cl fr R) : Calls Try.prog 48 #[.pointer (some ⟨Fb, 0, none⟩), .int .i64 x] w fun e w' => e = .returned (.bool (decide (x ∈ ints O))) ∧ w = w' := by
  have f1 := h.f1
  have K1 := Lib.hid (node_is h)
  have K2 := chain_Of x h.ch
  have hof := hi.of x
  generalize PC.ofV (n + 1) R x = y at *
  replace K2 := Lib.hid K2
  by_cases hy : 0 ≤ y
  · have HE : Hid (true = decide (x ∈ ints O)) := Lib.hid (decide_eq_true (hof.1 hy)).symm
    have q : decide (0 ≤ y) = true := decide_eq_true hy
    clear h hi hof
    go_enter Try.func48, Try.ntmps48
    go_wp2_with fail
    refine K1.out.mono ?_
    rintro e w1 ⟨rfl, rfl⟩
    go_wp2_with fail
    refine K2.out.mono ?_
    rintro e w1 ⟨rfl, rfl⟩
    go_wp2_with fail
    go_ret
    exact ⟨ret_bool HE.out, rfl⟩
  · have HE : Hid (false = decide (x ∈ ints O)) := Lib.hid (decide_eq_false (fun hm => hy (hof.2 hm))).symm
    have q : decide (0 ≤ y) = false := decide_eq_false hy
    clear h hi hof
    go_enter Try.func48, Try.ntmps48
    go_wp2_with fail
    refine K1.out.mono ?_
    rintro e w1 ⟨rfl, rfl⟩
    go_wp2_with fail
    refine K2.out.mono ?_
    rintro e w1 ⟨rfl, rfl⟩
    go_wp2_with fail
    go_ret
    exact ⟨ret_bool HE.out, rfl⟩
theorem node_Parent (x : Int) (h : NodeAt B w Fb Sb Gb Mb Pb C Nb Lb n v g up O cl fr R) (hi : FI n up O cl fr R) : Calls Try.prog 49 #[.pointer (some ⟨Fb, 0, none⟩), .int .i64 x] w fun e w' => e = .returned (.int .i64 (parV O up x)) ∧ w = w' := by
  have K1 := node_Is x h hi
  have f2 := h.f2
  by_cases hm : x ∈ ints O
  · rw [decide_eq_true hm] at K1
    replace K1 := Lib.hid K1
    obtain ⟨p, hp, rfl⟩ : ∃ p : Nat, p ∈ O ∧ x = p := by
      unfold ints at hm
      obtain ⟨p, hp, e⟩ := List.mem_map.1 hm
      exact ⟨p, hp, e.symm⟩
    have hpn := hi.lt hp
    have hul := h.ulen
    have d : w.cell? ⟨Pb, p, none⟩ = some (.int .i64 (up.getD p 0)) := by
      rw [h.par.cell]
      simp [List.getD, show p < up.length by omega]
    have HE : Hid (up.getD p 0 = parV O up (p : Int)) := Lib.hid (by unfold parV; rw [if_pos hm]; rfl)
    generalize up.getD p 0 = y at *
    have j0 : (0 : Int) ≤ (p : Int) := by omega
    have j1 : (p : Int) < (n : Int) := by omega
    clear h hi hm hp
    go_enter Try.func49, Try.ntmps49
    go_wp2_with fail
    refine K1.out.mono ?_
    rintro e w1 ⟨rfl, rfl⟩
    go_wp2_with fail
    go_ret
    exact ⟨ret_int HE.out, rfl⟩
  · rw [decide_eq_false hm] at K1
    replace K1 := Lib.hid K1
    have HE : Hid (-1 = parV O up x) := Lib.hid (by unfold parV; rw [if_neg hm])
    clear h hi hm
    go_enter Try.func49, Try.ntmps49
    go_wp2_with fail
    refine K1.out.mono ?_
    rintro e w1 ⟨rfl, rfl⟩
    go_wp2_with fail
    go_ret
    exact ⟨ret_int HE.out, rfl⟩
theorem gives_nil (w : World) : GivesInts w (ints []) (.returned (.slice none 0 0)) w := ⟨none, 0, 0, rfl, IntsFrom.nil, Below.refl _ _⟩
theorem node_Children (x : Int) (h : NodeAt B w Fb Sb Gb Mb Pb C Nb Lb n v g up O cl fr R) (hi : FI n up O cl fr R) : Calls Try.prog 51 #[.pointer (some ⟨Fb, 0, none⟩), .int .i64 x] w (GivesInts w (ints (kidV O R x))) := by
  have K1 := node_Is x h hi
  have f1 := h.f1
  by_cases hm : x ∈ ints O
  · rw [decide_eq_true hm] at K1
    replace K1 := Lib.hid K1
    have K2 := chain_List x h.ch
    obtain ⟨p, hp, rfl⟩ : ∃ p : Nat, p ∈ O ∧ x = p := by
      unfold ints at hm
      obtain ⟨p, hp, e⟩ := List.mem_map.1 hm
      exact ⟨p, hp, e.symm⟩
    have hpn := hi.lt hp
    have e1 : PC.rowV (n + 1) R (p : Int) = kidV O R (p : Int) := by
      rw [PC.rowV_in (by omega)]
      unfold kidV
      rw [if_pos hm]
      rfl
    rw [e1] at K2
    replace K2 := Lib.hid K2
    generalize kidV O R (p : Int) = D at *
    clear h hi hm hp e1
    go_enter Try.func51, Try.ntmps51
    go_wp2_with fail
    refine K1.out.mono ?_
    rintro e w1 ⟨rfl, rfl⟩
    go_wp2_with fail
    refine K2.out.mono ?_
    rintro e w1 ⟨A', n', c', rfl, a1, a2⟩
    have HG : Hid (GivesInts w (ints D) (.returned (.slice A' n' c')) w1) := Lib.hid ⟨_, _, _, rfl, a1, a2⟩
    go_wp2_with fail
    go_ret
    exact HG.out
  · rw [decide_eq_false hm] at K1
    replace K1 := Lib.hid K1
    have e1 : kidV O R x = [] := by unfold kidV; rw [if_neg hm]
    rw [e1]
    have HG := Lib.hid (gives_nil w)
    clear h hi hm
    go_enter Try.func51, Try.ntmps51
    go_wp2_with fail
    refine K1.out.mono ?_
    rintro e w1 ⟨rfl, rfl⟩
    go_wp2_with fail
    go_ret
    exact HG.out
theorem node_Len (h : NodeAt B w Fb Sb Gb Mb Pb C Nb Lb n v g up O cl fr R) : Calls Try.prog 44 #[.pointer (some ⟨Fb, 0, none⟩)] w fun e w' => e = .returned (.int .i64 (O.length : Int)) ∧ w = w' := by
  have f0 := h.f0
  have K1 := Lib.hid (node_is h)
  have K2 := Lib.hid (slots_Len h.sl)
  clear h
  go_enter Try.func44, Try.ntmps44
  go_wp2_with fail
  refine K1.out.mono ?_
  rintro e w1 ⟨rfl, rfl⟩
  go_wp2_with fail
  refine K2.out.mono ?_
  rintro e w1 ⟨rfl, rfl⟩
  go_wp2_with fail
  go_ret
  exact ⟨rfl, rfl⟩
end Go.Proofs.Ytdhcmnbajkpjiaa
